/- The walk over code, abstractly; contracts of functions. No program in sight. -/
import Derived.Test.YtechllcflknnlaaEng14
namespace Go.Proofs.Ytechllcflknnlaa
set_option linter.unusedSimpArgs false
set_option linter.unusedVariables false
set_option maxRecDepth 8000
open Go Go.RowKit AV

theorem view_junk : view .junk = .junk := rfl

/-- Slots are forgotten, or what they hold is written no more. -/
def Le (e e' : Env) : Prop := ∀ t, e' t = .junk ∨ e' t = e t ∨ e' t = view (e t)

theorem Rep.weaken {κ : Con} {Z : Nat → Option Obj} {β : List Nat → Option Nat} {e e' : Env} {val : Nat → Value} {w : World} (h : Rep κ Z β e val w) (hle : Le e e') : ∃ Z' β', Rep κ Z' β' e' val w := by
  classical
  let fz : Nat → Prop := fun t => e' t ≠ .junk ∧ e' t ≠ e t
  let under : Nat → Prop := fun b => ∃ t r, fz t ∧ β (t :: r) = some b
  let Z' : Nat → Option Obj := fun b => if under b then w.heap[b]? else Z b
  let β' : List Nat → Option Nat := fun r => match r with
    | [] => none
    | t :: r => if fz t then none else β (t :: r)
  have hZ : ∀ b o, Z b = some o → Z' b = some o := by
    intro b o ho
    show (if under b then w.heap[b]? else Z b) = some o
    split
    · exact h.zh b o ho
    · exact ho
  have hsub : ∀ p b, β' p = some b → β p = some b ∧ ∃ t r, p = t :: r ∧ ¬ fz t := by
    intro p b hp
    cases p with
    | nil => cases hp
    | cons t r =>
      replace hp : (if fz t then none else β (t :: r)) = some b := hp
      split at hp
      · cases hp
      · rename_i hn; exact ⟨hp, t, r, rfl, hn⟩
  have hkeep : ∀ t r b, ¬ fz t → β (t :: r) = some b → β' (t :: r) = some b := by
    intro t r b hn hb
    show (if fz t then none else β (t :: r)) = some b
    rw [if_neg hn]; exact hb
  refine ⟨Z', β', h.os, h.tape, h.output, h.size, h.frame, fun b o ho => hZ b o (h.z0 b o ho), fun b o ho => ?_, fun b o ho => ?_, fun p q b hp hq => h.inj p q b (hsub p b hp).1 (hsub q b hq).1, fun p b hp => ?_, fun t => ?_⟩
  · replace ho : (if under b then w.heap[b]? else Z b) = some o := ho
    split at ho
    · rename_i hu; obtain ⟨t, r, _, hr⟩ := hu; exact .inr (h.bo _ b hr).1
    · exact h.zo b o ho
  · replace ho : (if under b then w.heap[b]? else Z b) = some o := ho
    split at ho
    · exact ho
    · exact h.zh b o ho
  · obtain ⟨h1, t, r, rfl, hn⟩ := hsub p b hp
    have := h.bo _ b h1
    refine ⟨this.1, ?_, this.2.2⟩
    show (if under b then w.heap[b]? else Z b) = none
    rw [if_neg ?_]
    · exact this.2.1
    · rintro ⟨t', r', hf, hr'⟩
      have := h.inj _ _ b h1 hr'
      injection this with h2 h3
      subst h2
      exact hn hf
  · have hmv : ∀ s p A v, ¬ fz s → ORep Z w.heap β (s :: p) A v → ORep Z' w.heap β' (s :: p) A v := fun s p A v hn hA =>
      hA.move hZ fun r b hr => ⟨by simpa using hkeep s (p ++ r) b hn (by simpa using hr), rfl⟩
    have hof : ∀ s p A, getP (e' s) p = some A → isOwn A = true → ¬ fz s ∧ getP (e s) p = some A := by
      intro s p A hg hA
      rcases hle s with h1 | h1 | h1
      · rw [h1] at hg; rw [getP_junk hg] at hA; cases hA
      · exact ⟨fun hf => hf.2 h1, by rw [← h1]; exact hg⟩
      · rw [h1] at hg; rw [getP_noOwn p (view_noOwn _) hg] at hA; cases hA
    by_cases hj : e' t = .junk
    · unfold TRep; rw [hj]; exact .pers (.junk _)
    · by_cases hs : e' t = e t
      · have hn : ¬ fz t := fun hf => hf.2 hs
        unfold TRep
        rw [hs]
        cases het : e t with
        | alias s p => exact fun A hg hA => let ⟨h1, h2⟩ := hof s p A hg hA; hmv s p A _ h1 (h.aliasAt het A h2 hA)
        | valias s p =>
          intro l hg
          obtain ⟨h1, h2⟩ := hof s p _ hg rfl
          obtain ⟨cs, hv, hr, b, T, hb, hz⟩ := h.valiasAt het l h2
          exact ⟨cs, hv, hmv s p _ _ h1 hr, b, T, hkeep s p b h1 hb, hz⟩
        | addr s p =>
          obtain ⟨q, k, b, hp, hv, hb⟩ := h.addrAt het
          refine ⟨q, k, b, hp, hv, fun A hg hA => ?_⟩
          obtain ⟨h1, h2⟩ := hof s q A hg hA
          exact hkeep s q b h1 (hb A h2 hA)
        | _ => exact hmv t [] _ _ hn (h.slot' het (by simp))
      · have hv : e' t = AV.view (e t) := by
          rcases hle t with h1 | h1 | h1
          · exact absurd h1 hj
          · exact absurd h1 hs
          · exact h1
        have hf : fz t := ⟨hj, hs⟩
        have hpl : ∀ s p, e t ≠ .alias s p ∧ e t ≠ .valias s p ∧ e t ≠ .addr s p := by
          intro s p
          refine ⟨fun h1 => ?_, fun h1 => ?_, fun h1 => ?_⟩ <;> (rw [h1] at hv; exact hj hv)
        have hP : PRep Z' (AV.view (e t)) (val t) := (h.slot t hpl).toView' hZ fun r b hr => by
          show (if under b then w.heap[b]? else Z b) = w.heap[b]?
          rw [if_pos ⟨t, r, hf, hr⟩]
        unfold TRep
        rw [hv]
        have hvp := view_plain (e t)
        generalize AV.view (e t) = X at hP hvp
        cases X with
        | alias s p => exact absurd rfl (hvp s p).1
        | valias s p => exact absurd rfl (hvp s p).2.1
        | addr s p => exact absurd rfl (hvp s p).2.2
        | _ => exact .pers hP

theorem St.weaken {κ : Con} {e e' : Env} {a : Act} {w : World} (h : St κ e a w) (hle : Le e e') : St κ e' a w :=
  let ⟨h1, h2, Z, β, hR⟩ := h
  let ⟨Z', β', hR'⟩ := hR.weaken hle
  ⟨h1, h2, Z', β', hR'⟩

/-- An environment, slot by slot. -/
def envOf : List (Nat × AV) → Env
  | [] => fun _ => .junk
  | (t, v) :: L => upd (envOf L) t v

def LeL (e : Env) : List (Nat × AV) → Prop
  | [] => True
  | (t, v) :: L => (v = e t ∨ v = view (e t)) ∧ LeL e L

theorem LeL.le {e : Env} : ∀ {L : List (Nat × AV)}, LeL e L → Le e (envOf L)
  | [], _, t => .inl rfl
  | (s, v) :: L, ⟨h1, h2⟩, t => by
    by_cases hts : t = s
    · subst hts; simp only [envOf, upd_same]; exact .inr h1
    · simp only [envOf, upd_ne _ _ _ _ hts]; exact h2.le t

abbrev QA := Exit → Env → Prop

theorem exists_min {p : Nat → Prop} (h : ∃ n, p n) : ∃ n, p n ∧ ∀ m, p m → n ≤ m := by
  obtain ⟨n, hn⟩ := h
  induction n using Nat.strongRecOn with
  | ind n ih =>
    by_cases hm : ∃ m, m < n ∧ p m
    · obtain ⟨m, h1, h2⟩ := hm; exact ih m h1 h2
    · exact ⟨n, hn, fun m h => Nat.le_of_not_lt fun h1 => hm ⟨m, h1, h⟩⟩

open Classical in
noncomputable def minN (p : Nat → Prop) : Nat := if h : ∃ n, p n then Classical.choose (exists_min h) else 0
theorem minN_spec {p : Nat → Prop} (h : ∃ n, p n) : p (minN p) ∧ ∀ m, p m → minN p ≤ m := by
  unfold minN; rw [dif_pos h]; exact Classical.choose_spec (exists_min h)

def CW (P : Program) (κ : Con) (c : Code) (Q : QA) (e : Env) : Prop := ∀ a w, St κ e a w → c.wp P (fun x a' w' => ∃ e', Q x e' ∧ St κ e' a' w') a w

def thenA (N : Env → Prop) (Q : QA) : QA
  | .normal, e => N e
  | x, e => Q x e

def inBlockA (id : Nat) (Q : QA) : QA
  | .exit id', e => if id' = id then Q .normal e else Q (.exit id') e
  | x, e => Q x e

section
variable {P : Program} {κ : Con} {Q : QA} {e : Env}

theorem CW.weaken {c : Code} {e' : Env} (hle : Le e e') (h : CW P κ c Q e') : CW P κ c Q e := fun a w hs => h a w (hs.weaken hle)

theorem CW.skip (h : Q .normal e) : CW P κ .skip Q e := fun _ _ hs => wp_skip ⟨e, h, hs⟩
theorem CW.exit {id : Nat} (h : Q (.exit id) e) : CW P κ (.exit id) Q e := fun _ _ hs => wp_exit ⟨e, h, hs⟩
theorem CW.ret (h : Q .ret e) : CW P κ .ret Q e := fun _ _ hs => wp_ret ⟨e, h, hs⟩

theorem CW.seq {x y : Code} (h : CW P κ x (thenA (CW P κ y Q) Q) e) : CW P κ (.seq x y) Q e := fun a w hs => by
  refine wp_seq (wp_mono (h a w hs) fun x' a' w' ⟨e', hq, hs'⟩ => ?_)
  cases x' with
  | normal => exact hq a' w' hs'
  | _ => exact ⟨e', hq, hs'⟩

theorem CW.block {id : Nat} {c : Code} (h : CW P κ c (inBlockA id Q) e) : CW P κ (.block id c) Q e := fun a w hs => by
  refine wp_block (wp_mono (h a w hs) fun x' a' w' ⟨e', hq, hs'⟩ => ?_)
  cases x' with
  | exit id' =>
    simp only [inBlockA] at hq
    simp only [Exit.inBlock]
    split at hq
    · rename_i hid; rw [if_pos hid]; exact ⟨e', hq, hs'⟩
    · rename_i hid; rw [if_neg hid]; exact ⟨e', hq, hs'⟩
  | _ => exact ⟨e', hq, hs'⟩

theorem CW.scope {c : Code} : True := trivial

theorem CW.cond {t : Nat} {x y : Code} {b : Bool} (hb : e t = .bool b) (h1 : b = true → CW P κ x Q e) (h2 : b = false → CW P κ y Q e) : CW P κ (.cond (.tmp t) x y) Q e := fun a w hs => by
  obtain ⟨g1, g2, Z, β, hR⟩ := hs
  have hv := ORep.toP (hR.slot' hb (by simp)) rfl
  generalize hvv : vals a t = v at hv
  cases hv
  exact wp_cond_split (t := b) (by rw [eval_tmp, hvv]) (fun h => h1 h a w ⟨g1, g2, Z, β, hR⟩) (fun h => h2 h a w ⟨g1, g2, Z, β, hR⟩)

theorem CW.region {Γ : Ctx} (hΓ : ∀ f c, Γ f = some c → CtrOK P f c) {id : Nat} {ops : List Oper} (tl : List Nat) (hd : dstOK κ.lim ops = true) (h : wpOpsA P Γ tl ops.toArray ops e (Q .normal)) : CW P κ (.region id ops.toArray false) Q e := fun a w hs =>
  wp_region_lit (wpOpsA_sound hΓ (fun e' _ _ hq hs' => ⟨e', hq, hs'⟩) ops e a w hd h hs)

theorem CW.draw {Γ : Ctx} (hΓ : ∀ f c, Γ f = some c → CtrOK P f c) (hm : P.follows .mixedOrders = true) {id : Nat} {ops : List Oper} (tl : List Nat) (B : Array Nat) (hd : dstOK κ.lim ops = true) (hf : fwdB ops.toArray = true) (hB : befB ops.toArray = B)
    (h : wpOpsD P Γ tl ops.toArray B ops 0 [] e (Q .normal)) : CW P κ (.region id ops.toArray true) Q e := fun a w hs => by
  subst hB
  exact wpOpsD_sound hΓ hm (fun e' _ _ hq hs' => ⟨e', hq, hs'⟩) (by simpa using hd) hf (by simpa using h) hs

theorem CW.mono {c : Code} {Q' : QA} (h : CW P κ c Q e) (hq : ∀ x e, Q x e → Q' x e) : CW P κ c Q' e := fun a w hs =>
  wp_mono (h a w hs) fun _ _ _ ⟨e', h1, h2⟩ => ⟨e', hq _ _ h1, h2⟩

/-- A loop: what holds at its head, and what each round lowers. -/
theorem CW.loop {c : Code} {ι : Type} (inv : ι → List (Nat × AV)) (pre : ι → Prop) (μ : ι → Nat) (x0 : ι) (h0 : LeL e (inv x0) ∧ pre x0)
    (round : ∀ x, pre x → CW P κ c (thenA (fun e' => ∃ x', LeL e' (inv x') ∧ pre x' ∧ μ x' < μ x) Q) (envOf (inv x))) : CW P κ (.loop c) Q e := fun a w hs => by
  let I : Act → World → Prop := fun a w => ∃ n x, pre x ∧ μ x = n ∧ St κ (envOf (inv x)) a w
  let M : Act → World → Nat := fun a w => minN fun n => ∃ x, pre x ∧ μ x = n ∧ St κ (envOf (inv x)) a w
  refine wp_loop I M ⟨_, x0, h0.2, rfl, hs.weaken h0.1.le⟩ fun a w hI => ?_
  obtain ⟨⟨x, hx, hn, hsx⟩, _⟩ := minN_spec hI
  refine wp_mono (round x hx a w hsx) fun x' a' w' ⟨e', hq, hs'⟩ => ?_
  cases x' with
  | normal =>
    obtain ⟨y, g1, g2, g3⟩ := hq
    have hI' : I a' w' := ⟨_, y, g2, rfl, hs'.weaken g1.le⟩
    refine ⟨hI', ?_⟩
    have : M a' w' ≤ μ y := (minN_spec hI').2 _ ⟨y, g2, rfl, hs'.weaken g1.le⟩
    have h2 : M a w = μ x := hn.symm
    omega
  | _ => exact ⟨e', hq, hs'⟩
end

/-! ### Functions -/

def plainB : AV → Bool
  | .alias _ _ => false
  | .valias _ _ => false
  | .addr _ _ => false
  | .junk => false
  | _ => true

theorem plainB_spec {A : AV} (h : plainB A = true) : A ≠ .junk ∧ ∀ s p, A ≠ .alias s p ∧ A ≠ .valias s p ∧ A ≠ .addr s p := by
  cases A <;> simp_all [plainB]

/-- What is returned. -/
def RetOK (P : Program) (rs : List ResultVar) (e : Env) (r : AV) : Prop := match rs with
  | [.tmp t] => plainB r = true ∧ (r = e t ∨ r = view (e t))
  | [.tmp t1, .tmp t2] => ∃ r1 r2, r = .tup [r1, r2] ∧ t1 ≠ t2 ∧ plainB r1 = true ∧ plainB r2 = true ∧ (r1 = e t1 ∨ r1 = view (e t1)) ∧ (r2 = e t2 ∨ r2 = view (e t2))
  | [.cell t T] => ∃ l, aggT P T = some true ∧ szT P T = some l.length ∧ e t = .box l ∧ (r = .agg l ∨ r = .agg (viewL l))
  | [] => r = .tup []
  | _ => False

def retQ (P : Program) (rs : List ResultVar) (r : AV) : QA
  | .normal, e => RetOK P rs e r
  | .ret, e => RetOK P rs e r
  | _, _ => False

def argEnv (args : List AV) : Env := fun t => args.getD t .junk

theorem results_spec {P : Program} {fn : Func} {tmps : Array Value} {w : World} {t : Nat} {T : TypeId} {v : Value} {ad : Addr} (h : fn.results = #[.cell t T]) (ht : tmps.getD t undef = .pointer (some ad)) (hv : (loadVar T ad).run P w = .ok v w) : (results fn tmps).run P w = .ok v w := by
  have h2 : (tmps[t]?).getD undef = .pointer (some ad) := by rw [← Array.getD_eq_getD_getElem?]; exact ht
  simp [results, h, ht, h2, asAddr, hv]

/-- The state behind the code gives what the caller is told. -/
theorem ret_left {P : Program} {fn : Func} {κ : Con} {β0 : List Nat → Option Nat} (hO : κ.O0 = fun b => ∃ p, β0 p = some b) {e : Env} {a : Act} {w : World} {r : AV} (hs : St κ e a w) (hr : RetOK P fn.results.toList e r) :
    ∃ v Z' β', (results fn a.tmps).run P w = .ok v w ∧ Left κ.Z0 β0 κ.W0 Z' β' w ∧ ORep Z' w.heap β' [0] r v := by
  obtain ⟨h1, h2, Z, β, hR⟩ := hs
  have mk : ∀ (Z' : Nat → Option Obj) (β' : List Nat → Option Nat) (e' : Env) (β2 : List Nat → Option Nat), Rep κ Z' β' e' (vals a) w → (∀ p q b, β2 p = some b → β2 q = some b → p = q) → (∀ p b, β2 p = some b → ∃ q, β' q = some b) → Left κ.Z0 β0 κ.W0 Z' β2 w := by
    intro Z' β' e' β2 hR' hinj hsub
    have hnew : ∀ b, new κ b → (∃ q, β0 q = some b) ∨ κ.W0.heap.size ≤ b := fun b hb => by
      unfold new at hb; rw [hO] at hb; exact hb
    refine ⟨hR'.os, hR'.tape, hR'.output, hR'.size, fun b hb hn => hR'.frame b hb ?_, hR'.z0, fun b o ho => (hR'.zo b o ho).imp id fun h => hnew b h, hR'.zh, hinj, fun p b hp => ?_⟩
    · rw [hO]; rintro ⟨p, hp⟩; exact hn p hp
    · obtain ⟨q, hq⟩ := hsub p b hp
      have := hR'.bo q b hq
      exact ⟨hnew b this.1, this.2⟩
  unfold RetOK at hr
  split at hr
  · -- one slot
    rename_i t hrs
    obtain ⟨hp, hrt⟩ := hr
    have hres : fn.results = #[.tmp t] := by rw [← Array.toArray_toList (xs := fn.results), hrs]
    obtain ⟨Z', β', hR'⟩ := hR.weaken (e' := envOf [(t, r)]) (LeL.le ⟨hrt, trivial⟩)
    have hsl := hR'.slot' (t := t) (A := r) (by simp [envOf, upd]) (plainB_spec hp).2
    refine ⟨vals a t, Z', fun p => match p with | 0 :: q => β' (t :: q) | _ => none, results_tmp hres _ _ _, mk Z' β' _ _ hR' ?_ ?_, hsl.move (fun _ _ h => h) fun r b hb => ⟨by simpa using hb, rfl⟩⟩
    · intro p q b hp hq
      rcases p with _ | ⟨x, p⟩
      · cases hp
      · rcases q with _ | ⟨y, q⟩
        · cases hq
        · cases x <;> cases y <;> simp at hp hq
          have := hR'.inj _ _ _ hp hq
          simp at this
          rw [this]
    · intro p b hp
      rcases p with _ | ⟨x, p⟩
      · cases hp
      · cases x <;> simp at hp
        exact ⟨_, hp⟩
  · -- two slots
    rename_i t1 t2 hrs
    obtain ⟨r1, r2, rfl, h12, hp1, hp2, hr1, hr2⟩ := hr
    have hres : fn.results = #[.tmp t1, .tmp t2] := by rw [← Array.toArray_toList (xs := fn.results), hrs]
    obtain ⟨Z', β', hR'⟩ := hR.weaken (e' := envOf [(t1, r1), (t2, r2)]) (LeL.le ⟨hr1, hr2, trivial⟩)
    have hs1 := hR'.slot' (t := t1) (A := r1) (by simp [envOf, upd]) (plainB_spec hp1).2
    have hs2 := hR'.slot' (t := t2) (A := r2) (by simp [envOf, upd, Ne.symm h12]) (plainB_spec hp2).2
    refine ⟨.tuple #[vals a t1, vals a t2], Z', fun p => match p with | 0 :: 0 :: q => β' (t1 :: q) | 0 :: 1 :: q => β' (t2 :: q) | _ => none, results_tmp2 hres _ _ _, mk Z' β' _ _ hR' ?_ ?_, ?_⟩
    · intro p q b hp hq
      have form : ∀ p, (match p with | 0 :: 0 :: q => β' (t1 :: q) | 0 :: 1 :: q => β' (t2 :: q) | _ => none) = some b → (∃ s, p = 0 :: 0 :: s ∧ β' (t1 :: s) = some b) ∨ ∃ s, p = 0 :: 1 :: s ∧ β' (t2 :: s) = some b := by
        intro p hp
        split at hp
        · exact .inl ⟨_, rfl, hp⟩
        · exact .inr ⟨_, rfl, hp⟩
        · cases hp
      rcases form p hp with ⟨s, rfl, g1⟩ | ⟨s, rfl, g1⟩ <;> rcases form q hq with ⟨s', rfl, g2⟩ | ⟨s', rfl, g2⟩
      · have := hR'.inj _ _ _ g1 g2; simp at this; rw [this]
      · have := hR'.inj _ _ _ g1 g2; simp at this; exact absurd this.1 h12
      · have := hR'.inj _ _ _ g1 g2; simp at this; exact absurd this.1.symm h12
      · have := hR'.inj _ _ _ g1 g2; simp at this; rw [this]
    · intro p b hp
      split at hp
      · exact ⟨_, hp⟩
      · exact ⟨_, hp⟩
      · cases hp
    · refine .tup [r1, r2] _ rfl fun k hk => ?_
      have hk' : k = 0 ∨ k = 1 := by simp at hk; omega
      rcases hk' with rfl | rfl
      · exact hs1.move (fun _ _ h => h) fun r b hb => ⟨by simpa using hb, rfl⟩
      · exact hs2.move (fun _ _ h => h) fun r b hb => ⟨by simpa using hb, rfl⟩
  · -- a struct in memory
    rename_i t T hrs
    obtain ⟨l, hT, hsz, het, hrl⟩ := hr
    have hres : fn.results = #[.cell t T] := by rw [← Array.toArray_toList (xs := fn.results), hrs]
    -- the box, with its parts as they are told
    obtain ⟨l', hl', hle, hlen⟩ : ∃ l', r = .agg l' ∧ (∃ Z' β', Rep κ Z' β' (envOf [(t, .box l')]) (vals a) w) ∧ l'.length = l.length := by
      rcases hrl with rfl | rfl
      · exact ⟨l, rfl, hR.weaken (LeL.le ⟨.inl het.symm, trivial⟩), rfl⟩
      · refine ⟨viewL l, rfl, ?_, by rw [viewL_map]; simp⟩
        obtain ⟨Z1, β1, hR1⟩ := hR.weaken (e' := envOf [(t, .box l)]) (LeL.le ⟨.inl het.symm, trivial⟩)
        have hs1 := hR1.slot' (t := t) (A := .box l) (by simp [envOf, upd]) (by simp)
        generalize hvv : vals a t = v at hs1
        cases hs1 with
        | pers h => cases h
        | box l b cs E hb hz g1 g4 hk =>
          classical
          -- the parts are written no more; the box itself still is
          let under : Nat → Prop := fun b' => ∃ k r, β1 (t :: k :: r) = some b'
          let Z2 : Nat → Option Obj := fun b' => if under b' then w.heap[b']? else Z1 b'
          let β2 : List Nat → Option Nat := fun p => if p = [t] then some b else none
          have hZ : ∀ b o, Z1 b = some o → Z2 b = some o := by
            intro b o ho
            show (if under b then w.heap[b]? else Z1 b) = some o
            split
            · exact hR1.zh b o ho
            · exact ho
          have hbb := hR1.bo _ b hb
          refine ⟨Z2, β2, hR1.os, hR1.tape, hR1.output, hR1.size, hR1.frame, fun b o ho => hZ b o (hR1.z0 b o ho), fun b' o ho => ?_, fun b' o ho => ?_, fun p q b' hp hq => ?_, fun p b' hp => ?_, fun s => ?_⟩
          · replace ho : (if under b' then w.heap[b']? else Z1 b') = some o := ho
            split at ho
            · rename_i hu; obtain ⟨k, r, hr⟩ := hu; exact .inr (hR1.bo _ b' hr).1
            · exact hR1.zo b' o ho
          · replace ho : (if under b' then w.heap[b']? else Z1 b') = some o := ho
            split at ho
            · exact ho
            · exact hR1.zh b' o ho
          · replace hp : (if p = [t] then some b else none) = some b' := hp
            replace hq : (if q = [t] then some b else none) = some b' := hq
            split at hp
            · split at hq
              · simp_all
              · cases hq
            · cases hp
          · replace hp : (if p = [t] then some b else none) = some b' := hp
            split at hp
            · injection hp with hp
              subst hp
              refine ⟨hbb.1, ?_, hbb.2.2⟩
              show (if under b then w.heap[b]? else Z1 b) = none
              rw [if_neg]
              · exact hbb.2.1
              · rintro ⟨k, r, hr⟩
                have := hR1.inj _ _ b hr hb
                simp at this
            · cases hp
          · unfold TRep
            by_cases hst : s = t
            · subst hst
              simp only [envOf, upd_same]
              rw [hvv]
              refine .box _ b cs E (if_pos rfl) hz (by rw [viewL_map]; simpa using g1) (fun k hk' => g4 k (by rw [viewL_map] at hk'; simpa using hk')) (fun k hk' => ?_)
              have hkl : k < l.length := by rw [viewL_map] at hk'; simpa using hk'
              have : (viewL l)[k] = view l[k] := by simp [viewL_map]
              rw [this]
              exact .pers ((hk k hkl).toView' hZ fun r b' hr => by
                show (if under b' then w.heap[b']? else Z1 b') = w.heap[b']?
                rw [if_pos ⟨k, r, by simpa using hr⟩])
            · simp only [envOf, upd_ne _ _ _ _ hst]
              exact .pers (.junk _)
    subst hl'
    obtain ⟨Z', β', hR'⟩ := hle
    have hsl := hR'.slot' (t := t) (A := .box l') (by simp [envOf, upd]) (by simp)
    generalize hvv : vals a t = v at hsl
    cases hsl with
    | pers h => cases h
    | box l' b cs E hb hz g1 g4 hk =>
      refine ⟨.agg cs, Z', fun p => match p with | 0 :: k :: q => β' (t :: k :: q) | _ => none, results_spec hres hvv ?_, mk Z' β' _ _ hR' ?_ ?_, .agg l' cs g1 fun k hk' => (hk k hk').move (fun _ _ h => h) fun r b' hr => ⟨by simpa using hr, rfl⟩⟩
      · have := run_loadAt_agg' (P := P) hT (by rw [hsz, g1, hlen]) hz
        simpa [Instr.loadAt, Instr.sureAddr] using this
      · intro p q b' hp hq
        have form : ∀ p, (match p with | 0 :: k :: q => β' (t :: k :: q) | _ => none) = some b' → ∃ k s, p = 0 :: k :: s ∧ β' (t :: k :: s) = some b' := by
          intro p hp
          split at hp
          · exact ⟨_, _, rfl, hp⟩
          · cases hp
        obtain ⟨k, s, rfl, e1⟩ := form p hp
        obtain ⟨k', s', rfl, e2⟩ := form q hq
        have := hR'.inj _ _ _ e1 e2
        simp at this
        rw [this.1, this.2]
      · intro p b' hp
        split at hp
        · exact ⟨_, hp⟩
        · cases hp
  · rename_i hrs
    subst hr
    have hres : fn.results = #[] := by rw [← Array.toArray_toList (xs := fn.results), hrs]
    exact ⟨.tuple #[], Z, fun _ => none, results_none hres _ _ _, mk Z β e _ hR (by simp) (by simp), .pers (.tup [] #[] rfl (by simp))⟩
  · exact hr.elim

/-- A contract of a function that reads its arguments alone. -/
theorem ctr_pure {P : Program} {f : Nat} {fn : Func} {c : Code} (hf : P.funcs[f]? = some fn) (hname : (fn.name == "runtime.NumGoroutine") = false) (hb : fn.body = some c) {nt : Nat} (hnt : fn.ntmps = nt) {rel : List AV → AV → List AV → Prop}
    (h : ∀ args r args', rel args r args' → args' = [] ∧ args.length ≤ nt ∧ ∀ κ : Con, κ.lim = (0, nt) → CW P κ c (retQ P fn.results.toList r) (argEnv args)) : CtrOK P f ⟨false, rel⟩ := by
  refine ⟨⟨fn, c, hf, hname, hb⟩, fun args r args' hrel w Z β vs hvs hwf hargs => ?_⟩
  obtain ⟨rfl, hlen, hcw⟩ := h args r args' hrel
  simp only [Bool.false_eq_true, if_false] at hargs
  obtain ⟨hβ, hargs⟩ := hargs
  subst hβ
  let κ : Con := ⟨w, Z, fun b => ∃ p, (fun _ : List Nat => (none : Option Nat)) p = some b, fun _ => undef, (0, nt)⟩
  refine calls_of_wp hf hb (wp_mono (hcw κ rfl { tmps := vs ++ Array.replicate (fn.ntmps - vs.size) undef, defers := [] } w ⟨rfl, ⟨by simp [hnt, hvs]; show _ = nt; omega, fun t ht => absurd ht (Nat.not_lt_zero t)⟩, Z, fun _ => none, ?_⟩) fun x a w' ⟨e', hq, hs'⟩ => ?_)
  · refine ⟨rfl, rfl, rfl, Nat.le_refl _, fun _ _ _ => rfl, fun _ _ h => h, fun _ _ h => .inl h, hwf.zh, by simp, by simp, fun t => ?_⟩
    unfold TRep argEnv
    by_cases ht : t < args.length
    · have e1 : args.getD t .junk = args[t] := by simp [List.getD, List.getElem?_eq_getElem ht]
      have e2 : vals { tmps := vs ++ Array.replicate (fn.ntmps - vs.size) undef, defers := [] } t = vs.getD t undef := by
        have : t < vs.size := by omega
        simp [vals, Array.getD_eq_getD_getElem?, Array.getElem?_append_left this]
      rw [e1, e2]
      have := hargs t ht
      have hpl := this.plain
      generalize args[t] = X at this hpl
      cases X with
      | alias s p => exact absurd rfl (hpl s p).1
      | valias s p => exact absurd rfl (hpl s p).2.1
      | addr s p => exact absurd rfl (hpl s p).2.2
      | _ => exact .pers this
    · have e1 : args.getD t .junk = .junk := by simp [List.getD, List.getElem?_eq_none (Nat.le_of_not_lt ht)]
      rw [e1]
      exact .pers (.junk _)
  · have hd : a.defers = [] := hs'.1
    have key : RetOK P fn.results.toList e' r → ∃ v, (results fn a.tmps).run P w' = .ok v w' ∧ ∃ v' Z' β', Ending.returned v = .returned v' ∧ Left Z (fun _ => none) w Z' β' w' ∧ ORep Z' w'.heap β' [0] r v' ∧ ∀ i (h : i < ([] : List AV).length), ORep Z' w'.heap β' [i + 1] [][i] (vs.getD i undef) := by
      intro hr
      obtain ⟨v, Z', β', g1, g2, g3⟩ := ret_left (κ := κ) rfl hs' hr
      exact ⟨v, g1, v, Z', β', rfl, g2, g3, by simp⟩
    cases x with
    | normal => obtain ⟨v, g1, g2⟩ := key hq; exact ⟨hd, v, g1, g2⟩
    | ret => obtain ⟨v, g1, g2⟩ := key hq; exact ⟨hd, v, g1, g2⟩
    | _ => exact hq.elim

end Go.Proofs.Ytechllcflknnlaa
