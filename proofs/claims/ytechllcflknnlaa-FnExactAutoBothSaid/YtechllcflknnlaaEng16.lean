/- Words for the walk: integers, lists of integers, and the rules by which the walk is reckoned. No program in sight. -/
import Derived.Test.YtechllcflknnlaaEng15
namespace Go.Proofs.Ytechllcflknnlaa
set_option linter.unusedSimpArgs false
set_option linter.unusedVariables false
set_option maxRecDepth 8000
open Go Go.RowKit AV

abbrev I (n : Int) : AV := .num .i64 n
abbrev ints (l : List Int) : AV := .sh (l.map I)
abbrev oints (l : List Int) : AV := .own (l.map I)
abbrev rows (l : List (List Int)) : AV := .sh (l.map ints)
abbrev orows (l : List (List Int)) : AV := .own (l.map ints)
abbrev oorows (l : List (List Int)) : AV := .own (l.map oints)

/-- An environment of arguments, slot by slot. -/
def envA : Nat → List AV → Env
  | _, [] => fun _ => .junk
  | k, a :: l => upd (envA (k + 1) l) k a

theorem envA_get : ∀ (l : List AV) (k t : Nat), envA k l t = if k ≤ t then l.getD (t - k) .junk else .junk
  | [], k, t => by simp [envA]
  | a :: l, k, t => by
    simp only [envA, upd]
    by_cases h : t = k
    · subst h; simp
    · rw [if_neg h, envA_get l (k + 1) t]
      by_cases h2 : k + 1 ≤ t
      · rw [if_pos h2, if_pos (by omega), show t - k = (t - (k + 1)) + 1 by omega]; simp
      · rw [if_neg h2, if_neg (by omega)]

theorem argEnv_eq (l : List AV) : argEnv l = envA 0 l := by funext t; simp [argEnv, envA_get]

theorem upd_at (e : Env) (k : Nat) (v : AV) (t : Nat) : upd e k v t = if t = k then v else e t := rfl
theorem kill_upd (s : Nat) (p : List Nat) (e : Env) (t : Nat) (v : AV) : kill s p (upd e t v) = upd (kill s p e) t (killV s p v) := by
  funext x; simp only [kill, upd]; split <;> rfl
theorem kill_nil (s : Nat) (p : List Nat) : kill s p (fun _ => AV.junk) = fun _ => .junk := rfl

section
variable {P : Program} {κ : Con} {Γ : Ctx} {tl : List Nat} {ops : Array Oper} {e : Env} {K : Env → Prop} {B : Array Nat}

def KOps (P : Program) (Γ : Ctx) (tl : List Nat) (ops : Array Oper) (rest : List Oper) (e : Env) (K : Env → Prop) (ws : List Wr) : Prop := wpOpsA P Γ tl ops rest (apps ws e) K
theorem wpOpsA_cons (o : Oper) (rest : List Oper) : wpOpsA P Γ tl ops (o :: rest) e K = (rdG P Γ tl ops o).W e (KOps P Γ tl ops rest e K) := rfl
theorem wpOpsA_nil : wpOpsA P Γ tl ops [] e K = K e := rfl
theorem KOps_app (rest : List Oper) (ws : List Wr) : KOps P Γ tl ops rest e K ws = wpOpsA P Γ tl ops rest (apps ws e) K := rfl

def KOpsD (P : Program) (Γ : Ctx) (tl : List Nat) (ops : Array Oper) (B : Array Nat) (rest : List Oper) (i : Nat) (acc : List (Nat × Fp)) (e : Env) (K : Env → Prop) (f : Fp) : Prop :=
  wpOpsD P Γ tl ops B rest (i + 1) ((i, f) :: acc) (apps f.ws e) K
theorem wpOpsD_cons (o : Oper) (rest : List Oper) (i : Nat) (acc) : wpOpsD P Γ tl ops B (o :: rest) i acc e K = (rdG P Γ tl ops o).D e [] [] [] (KOpsD P Γ tl ops B rest i acc e K) := rfl
theorem wpOpsD_nil (i : Nat) (acc) : wpOpsD P Γ tl ops B [] i acc e K = (chkP B acc = true ∧ K e) := rfl
theorem KOpsD_app (rest : List Oper) (i acc) (gs ps ts : List Nat) (ws : List Wr) : KOpsD P Γ tl ops B rest i acc e K ⟨gs, ps, ts, ws⟩ = wpOpsD P Γ tl ops B rest (i + 1) ((i, ⟨gs, ps, ts, ws⟩) :: acc) (apps ws e) K := rfl

theorem W_ret (ws : List Wr) (K : List Wr → Prop) : Rd.W e (.ret ws) K = K ws := rfl
theorem W_fail (K : List Wr → Prop) : Rd.W e .fail K = False := rfl
theorem W_get (t : Nat) (k : AV → Rd) (K : List Wr → Prop) : Rd.W e (.get t k) K = (e t ≠ .junk ∧ Rd.W e (k (e t)) K) := rfl
theorem W_peek (t : Nat) (k : AV → Rd) (K : List Wr → Prop) : Rd.W e (.peek t k) K = (e t ≠ .junk ∧ Rd.W e (k (head (e t))) K) := rfl
theorem W_need (c : Prop) (k : Rd) (K : List Wr → Prop) : Rd.W e (.need c k) K = (c ∧ Rd.W e k K) := rfl
theorem W_ex (α : Type) (k : α → Rd) (K : List Wr → Prop) : Rd.W e (.ex α k) K = ∃ x, Rd.W e (k x) K := rfl
theorem W_br (c : Prop) (x y : Rd) (K : List Wr → Prop) : Rd.W e (.br c x y) K = ((c → Rd.W e x K) ∧ (¬ c → Rd.W e y K)) := rfl

theorem W_idx_map {α : Type} (f : α → AV) (l : List α) (n : Nat) (k : AV → Rd) (K : List Wr → Prop) : Rd.W e (rdIdx (l.map f) n k) K = ∃ a, l[n]? = some a ∧ Rd.W e (k (f a)) K := by
  simp only [rdIdx, Rd.W, List.getElem?_map]
  refine propext ⟨fun ⟨x, h1, h2⟩ => ?_, fun ⟨a, h1, h2⟩ => ⟨f a, by simp [h1], h2⟩⟩
  cases h : l[n]? with
  | none => simp [h] at h1
  | some a => simp [h] at h1; subst h1; exact ⟨a, rfl, h2⟩
theorem W_idx_zero (a : AV) (l : List AV) (k : AV → Rd) (K : List Wr → Prop) : Rd.W e (rdIdx (a :: l) 0 k) K = Rd.W e (k a) K := by
  simp [rdIdx, Rd.W]
theorem W_idx_succ (a : AV) (l : List AV) (n : Nat) (k : AV → Rd) (K : List Wr → Prop) : Rd.W e (rdIdx (a :: l) (n + 1) k) K = Rd.W e (rdIdx l n k) K := by
  simp [rdIdx, Rd.W]
theorem W_getP_nil (c : AV) (k : AV → Rd) (K : List Wr → Prop) : Rd.W e (rdGetP c [] k) K = Rd.W e (k c) K := by
  simp [rdGetP, Rd.W, getP]
theorem W_getP_own (l : List AV) (i : Nat) (q : List Nat) (k : AV → Rd) (K : List Wr → Prop) : Rd.W e (rdGetP (.own l) (i :: q) k) K = Rd.W e (rdIdx l i fun a => rdGetP a q k) K := by
  simp only [rdGetP, rdIdx, Rd.W, getP, kids]
  cases l[i]? <;> simp
theorem W_getP_box (l : List AV) (i : Nat) (q : List Nat) (k : AV → Rd) (K : List Wr → Prop) : Rd.W e (rdGetP (.box l) (i :: q) k) K = Rd.W e (rdIdx l i fun a => rdGetP a q k) K := by
  simp only [rdGetP, rdIdx, Rd.W, getP, kids]
  cases l[i]? <;> simp
/-- A contract told by its argument: x. -/
theorem W_ask {Γ : Ctx} {f : Nat} {args : List AV} {k : AV → Rd} {K : List Wr → Prop} {rel : List AV → AV → List AV → Prop} (hf : Γ f = some ⟨false, rel⟩) (r : AV) (hr : rel args r []) (h : Rd.W e (k r) K) : Rd.W e (rdAsk Γ f args k) K :=
  ⟨_, r, ⟨hf, rfl, hr⟩, h⟩

theorem D_idx_map {α : Type} (f : α → AV) (l : List α) (n : Nat) (k : AV → Rd) (gs ps ts) (K : Fp → Prop) : Rd.D e (rdIdx (l.map f) n k) gs ps ts K = ∃ a, l[n]? = some a ∧ Rd.D e (k (f a)) gs ps ts K := by
  simp only [rdIdx, Rd.D, List.getElem?_map]
  refine propext ⟨fun ⟨x, h1, h2⟩ => ?_, fun ⟨a, h1, h2⟩ => ⟨f a, by simp [h1], h2⟩⟩
  cases h : l[n]? with
  | none => simp [h] at h1
  | some a => simp [h] at h1; subst h1; exact ⟨a, rfl, h2⟩
theorem D_idx_zero (a : AV) (l : List AV) (k : AV → Rd) (gs ps ts) (K : Fp → Prop) : Rd.D e (rdIdx (a :: l) 0 k) gs ps ts K = Rd.D e (k a) gs ps ts K := by
  simp [rdIdx, Rd.D]
theorem D_idx_succ (a : AV) (l : List AV) (n : Nat) (k : AV → Rd) (gs ps ts) (K : Fp → Prop) : Rd.D e (rdIdx (a :: l) (n + 1) k) gs ps ts K = Rd.D e (rdIdx l n k) gs ps ts K := by
  simp [rdIdx, Rd.D]
theorem D_getP_nil (c : AV) (k : AV → Rd) (gs ps ts) (K : Fp → Prop) : Rd.D e (rdGetP c [] k) gs ps ts K = Rd.D e (k c) gs ps ts K := by
  simp [rdGetP, Rd.D, getP]
theorem D_getP_own (l : List AV) (i : Nat) (q : List Nat) (k : AV → Rd) (gs ps ts) (K : Fp → Prop) : Rd.D e (rdGetP (.own l) (i :: q) k) gs ps ts K = Rd.D e (rdIdx l i fun a => rdGetP a q k) gs ps ts K := by
  simp only [rdGetP, rdIdx, Rd.D, getP, kids]
  cases l[i]? <;> simp
theorem D_getP_box (l : List AV) (i : Nat) (q : List Nat) (k : AV → Rd) (gs ps ts) (K : Fp → Prop) : Rd.D e (rdGetP (.box l) (i :: q) k) gs ps ts K = Rd.D e (rdIdx l i fun a => rdGetP a q k) gs ps ts K := by
  simp only [rdGetP, rdIdx, Rd.D, getP, kids]
  cases l[i]? <;> simp
theorem D_ask {Γ : Ctx} {f : Nat} {args : List AV} {k : AV → Rd} {gs ps ts} {K : Fp → Prop} {rel : List AV → AV → List AV → Prop} (hf : Γ f = some ⟨false, rel⟩) (r : AV) (hr : rel args r []) (h : Rd.D e (k r) gs ps ts K) : Rd.D e (rdAsk Γ f args k) gs ps ts K :=
  ⟨_, r, ⟨hf, rfl, hr⟩, h⟩

theorem D_ret (ws : List Wr) (gs ps ts) (K : Fp → Prop) : Rd.D e (.ret ws) gs ps ts K = K ⟨gs, ps, ts, ws⟩ := rfl
theorem D_fail (gs ps ts) (K : Fp → Prop) : Rd.D e .fail gs ps ts K = False := rfl
theorem D_get (t : Nat) (k : AV → Rd) (gs ps ts) (K : Fp → Prop) : Rd.D e (.get t k) gs ps ts K = (e t ≠ .junk ∧ Rd.D e (k (e t)) (t :: gs) ps (tg (e t) ++ ts) K) := rfl
theorem D_peek (t : Nat) (k : AV → Rd) (gs ps ts) (K : Fp → Prop) : Rd.D e (.peek t k) gs ps ts K = (e t ≠ .junk ∧ Rd.D e (k (head (e t))) gs (t :: ps) (tg (e t) ++ ts) K) := rfl
theorem D_need (c : Prop) (k : Rd) (gs ps ts) (K : Fp → Prop) : Rd.D e (.need c k) gs ps ts K = (c ∧ Rd.D e k gs ps ts K) := rfl
theorem D_ex (α : Type) (k : α → Rd) (gs ps ts) (K : Fp → Prop) : Rd.D e (.ex α k) gs ps ts K = ∃ x, Rd.D e (k x) gs ps ts K := rfl
theorem D_br (c : Prop) (x y : Rd) (gs ps ts) (K : Fp → Prop) : Rd.D e (.br c x y) gs ps ts K = ((c → Rd.D e x gs ps ts K) ∧ (¬ c → Rd.D e y gs ps ts K)) := rfl
end

/-- One piece of code, and what follows behind a name. -/
theorem CW.seqK {P : Program} {κ : Con} {Q : QA} {e : Env} {x y : Code} (h : ∀ K : Env → Prop, (∀ e', CW P κ y Q e' → K e') → CW P κ x (thenA K Q) e) : CW P κ (.seq x y) Q e :=
  CW.seq (h _ fun _ h => h)

theorem CW.reg {P : Program} {κ : Con} {Q : QA} {e : Env} {Γ : Ctx} (hΓ : ∀ f c, Γ f = some c → CtrOK P f c) {id : Nat} {ops : List Oper} (hd : dstOK κ.lim ops = true) (h : wpOpsA P Γ (takenL ops) ops.toArray ops e (Q .normal)) : CW P κ (.region id ops.toArray false) Q e :=
  CW.region hΓ _ hd h
theorem CW.drw {P : Program} {κ : Con} {Q : QA} {e : Env} {Γ : Ctx} (hΓ : ∀ f c, Γ f = some c → CtrOK P f c) (hm : P.follows .mixedOrders = true) {id : Nat} {ops : List Oper} (hd : dstOK κ.lim ops = true) (hf : fwdB ops.toArray = true)
    (h : ∀ B, befB ops.toArray = B → wpOpsD P Γ (takenL ops) ops.toArray B ops 0 [] e (Q .normal)) : CW P κ (.region id ops.toArray true) Q e :=
  CW.draw hΓ hm _ _ hd hf rfl (h _ rfl)

theorem thenA_normal (N : Env → Prop) (Q : QA) (e : Env) : thenA N Q .normal e = N e := rfl
theorem thenA_normal' (N : Env → Prop) (Q : QA) : thenA N Q .normal = N := rfl
theorem thenA_exit (N : Env → Prop) (Q : QA) (id : Nat) (e : Env) : thenA N Q (.exit id) e = Q (.exit id) e := rfl
theorem thenA_ret (N : Env → Prop) (Q : QA) (e : Env) : thenA N Q .ret e = Q .ret e := rfl
theorem inBlockA_normal (id : Nat) (Q : QA) (e : Env) : inBlockA id Q .normal e = Q .normal e := rfl
theorem inBlockA_ret (id : Nat) (Q : QA) (e : Env) : inBlockA id Q .ret e = Q .ret e := rfl
theorem inBlockA_exit (id id' : Nat) (Q : QA) (e : Env) : inBlockA id Q (.exit id') e = if id' = id then Q .normal e else Q (.exit id') e := rfl
theorem retQ_ret (P : Program) (rs : List ResultVar) (r : AV) (e : Env) : retQ P rs r .ret e = RetOK P rs e r := rfl
theorem retQ_normal (P : Program) (rs : List ResultVar) (r : AV) (e : Env) : retQ P rs r .normal e = RetOK P rs e r := rfl
theorem retOK1 (P : Program) (t : Nat) (e : Env) (r : AV) : RetOK P [.tmp t] e r = (plainB r = true ∧ (r = e t ∨ r = view (e t))) := rfl

def noCtx : Ctx := fun _ => none
theorem noCtx_ok (P : Program) : ∀ f c, noCtx f = some c → CtrOK P f c := by intro f c h; cases h

theorem ex_idx {α : Type} {l : List α} {n : Nat} {Q : α → Prop} (h : n < l.length) (hq : Q l[n]) : ∃ a, l[n]? = some a ∧ Q a := ⟨l[n], List.getElem?_eq_getElem h, hq⟩

theorem noSh_ints (l : List Int) : AV.allN (l.map I) = true := by rw [allN_iff]; simp [noSh]
theorem allP_ints (l : List Int) : AV.allP (l.map I) = true := by rw [allP_iff]; simp [isP]
theorem allP_rows (l : List (List Int)) : AV.allP (l.map ints) = true := by rw [allP_iff]; simp [isP]
theorem view_oints (l : List Int) : AV.viewL (l.map I) = l.map I := by rw [viewL_map]; simp [view]
theorem Nat.cast_ofNat_Int : ((0 : Nat) : Int) = 0 := rfl

end Go.Proofs.Ytechllcflknnlaa

