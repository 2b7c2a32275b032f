/- Contracts of functions with several results, structs in memory among them. No program in sight. -/
import Derived.Test.YtehdfifncbokeaaGreatGrpJ
import Derived.Lib.MinMax
namespace Go.Proofs.YtehdfifncbokeaaGreat
set_option linter.unusedSimpArgs false
set_option linter.unusedVariables false
set_option maxRecDepth 8000
set_option maxHeartbeats 2000000
open Go Go.RowKit AV

def slotR : ResultVar → Nat
  | .tmp t => t
  | .cell t _ => t

def ResI (P : Program) (e : Env) (rv : ResultVar) (A : AV) : Prop := match rv with
  | .tmp t => plainB A = true ∧ (A = e t ∨ A = view (e t))
  | .cell t T => ∃ l, aggT P T = some true ∧ szT P T = some l.length ∧ e t = .box l ∧ A = .agg l

def ResL (P : Program) (e : Env) : List ResultVar → List AV → Prop
  | [], [] => True
  | rv :: rs, A :: l => ResI P e rv A ∧ ResL P e rs l
  | _, _ => False

theorem ResL.len {P : Program} {e : Env} : ∀ {rs : List ResultVar} {l : List AV}, ResL P e rs l → l.length = rs.length
  | [], [], _ => rfl
  | _ :: _, _ :: _, h => by simp [h.2.len]
  | [], _ :: _, h => h.elim
  | _ :: _, [], h => h.elim
theorem ResL.get {P : Program} {e : Env} : ∀ {rs : List ResultVar} {l : List AV}, ResL P e rs l → ∀ k (h1 : k < rs.length) (h2 : k < l.length), ResI P e rs[k] l[k]
  | _ :: _, _ :: _, h, 0, _, _ => h.1
  | _ :: _, _ :: _, h, k + 1, h1, h2 => by simpa using h.2.get k (by simpa using h1) (by simpa using h2)
  | [], _ :: _, h, _, _, _ => h.elim
  | [], [], _, _, h1, _ => by simp at h1
def RetML (P : Program) (rs : List ResultVar) (e : Env) (r A : AV) : Prop := e 0 = A ∧ isOwn A = true ∧ ∃ l : List AV, r = .tup l ∧ rs.length ≠ 1 ∧ (rs.map slotR).Nodup ∧ 0 ∉ rs.map slotR ∧ ResL P e rs l
def RetM (P : Program) (rs : List ResultVar) (e : Env) (r : AV) : Prop := ∃ l : List AV, r = .tup l ∧ rs.length ≠ 1 ∧ (rs.map slotR).Nodup ∧ 0 ∉ rs.map slotR ∧ ResL P e rs l
def retML (P : Program) (rs : List ResultVar) (r A : AV) : QA
  | .normal, e => RetML P rs e r A
  | .ret, e => RetML P rs e r A
  | _, _ => False
def retM (P : Program) (rs : List ResultVar) (r : AV) : QA
  | .normal, e => RetM P rs e r
  | .ret, e => RetM P rs e r
  | _, _ => False
theorem retML_ret (P : Program) (rs : List ResultVar) (r A : AV) (e : Env) : retML P rs r A .ret e = RetML P rs e r A := rfl
theorem retML_normal (P : Program) (rs : List ResultVar) (r A : AV) (e : Env) : retML P rs r A .normal e = RetML P rs e r A := rfl
theorem retM_ret (P : Program) (rs : List ResultVar) (r : AV) (e : Env) : retM P rs r .ret e = RetM P rs e r := rfl
theorem retM_normal (P : Program) (rs : List ResultVar) (r : AV) (e : Env) : retM P rs r .normal e = RetM P rs e r := rfl

end Go.Proofs.YtehdfifncbokeaaGreat

namespace Go.Proofs.YtehdfifncbokeaaGreat
set_option linter.unusedSimpArgs false
set_option linter.unusedVariables false
set_option maxRecDepth 8000
set_option maxHeartbeats 2000000
open Go Go.RowKit AV

inductive Frz : Env → Env → Prop
  | refl (e : Env) : Frz e e
  | step {e e' : Env} (s : Nat) (p : List Nat) (A : AV) (hg : getP (e s) p = some A) (hA : isOwn A = true) (h : Frz ((Wr.mod s p (view A)).app e) e') : Frz e e'

theorem Frz.st {κ : Con} {e e' : Env} (h : Frz e e') : ∀ {a : Act} {w : World}, St κ e a w → St κ e' a w := by
  induction h with
  | refl e => exact fun h => h
  | step s p A hg hA _ ih =>
    intro a w ⟨h1, h2, Z, β, hR⟩
    have hpl := plain_of_own hg hA
    obtain ⟨Z', β', hR', _⟩ := hR.freeze s p A hg hpl.2 hpl.1 (view_plain A) (view_noOwn A)
    exact ih ⟨h1, h2, Z', β', hR'⟩

theorem CW.seqM {P : Program} {κ : Con} {Q : QA} {e : Env} {x y : Code} {ι : Type} (inv : ι → List (Nat × AV)) (pre : ι → Prop) (hM : ∀ i, pre i → CW P κ y Q (envOf (inv i)))
    (h : CW P κ x (thenA (fun e' => ∃ i, LeL e' (inv i) ∧ pre i) Q) e) : CW P κ (.seq x y) Q e :=
  CW.seq (h.mono fun x e hq => by
    cases x with
    | normal => obtain ⟨i, hle, hp⟩ := hq; exact CW.weaken hle.le (hM i hp)
    | _ => exact hq)

def takesX (o : Oper) : List Nat := match o.op with
  | .call c => (match c.callee with
    | .builtin .append => (match c.args.toList with
      | x :: _ => opT x
      | _ => [])
    | _ => [])
  | .buildSlice _ _ ps => opTs ps.toList
  | .build _ ps => opTs ps.toList
  | .store _ _ v => opT v
  | .assign x => opT x
  | .box _ x => opT x
  | .extract x _ => opT x
  | _ => []
def takenX : List Oper → List Nat
  | [] => []
  | o :: l => takesX o ++ takenX l
theorem CW.regX {P : Program} {κ : Con} {Q : QA} {e : Env} {Γ : Ctx} (hΓ : ∀ f c, Γ f = some c → CtrOK P f c) {id : Nat} {ops : List Oper} (hd : dstOK κ.lim ops = true) (h : wpOpsA P Γ (takenX ops) ops.toArray ops e (Q .normal)) : CW P κ (.region id ops.toArray false) Q e :=
  CW.region hΓ _ hd h
theorem CW.drwX {P : Program} {κ : Con} {Q : QA} {e : Env} {Γ : Ctx} (hΓ : ∀ f c, Γ f = some c → CtrOK P f c) (hm : P.follows .mixedOrders = true) {id : Nat} {ops : List Oper} (hd : dstOK κ.lim ops = true) (hf : fwdB ops.toArray = true)
    (h : ∀ B, befB ops.toArray = B → wpOpsD P Γ (takenX ops) ops.toArray B ops 0 [] e (Q .normal)) : CW P κ (.region id ops.toArray true) Q e :=
  CW.draw hΓ hm _ _ hd hf rfl (h _ rfl)

end Go.Proofs.YtehdfifncbokeaaGreat

namespace Go.Proofs.YtehdfifncbokeaaGreat
set_option linter.unusedSimpArgs false
set_option linter.unusedVariables false
set_option maxRecDepth 8000
set_option maxHeartbeats 2000000
open Go Go.RowKit AV

noncomputable def rdMinN (d : Nat) (A B : AV) : Rd := match A, B with
  | .num .i64 m, .num .i64 n => .ret [.set d (.num .i64 (min m n))]
  | _, _ => .fail
theorem rdMinN_spec {d : Nat} {A B : AV} {e : Env} {ws : List Wr} (h : (rdMinN d A B).Wo e ws) : ∃ m n, A = .num .i64 m ∧ B = .num .i64 n ∧ ws = [.set d (.num .i64 (min m n))] := by
  unfold rdMinN at h
  split at h
  · exact ⟨_, _, rfl, rfl, h⟩
  · exact h.elim
noncomputable def rdMin (d : Nat) (x y : Operand) : Rd := rdX x fun A => rdX y fun B => rdMinN d A B
theorem rdMin_sound {P : Program} {κ : Con} {o : Oper} {e : Env} {ws : List Wr} {ts : Array TypeId} {d : Nat} {x y : Operand} (ho : o.op = .call { callee := .builtin .min, args := #[x, y], argTypes := ts }) (hd : o.dst = some d) (hn : (κ.lim.1 ≤ d ∧ d < κ.lim.2)) (h : (rdMin d x y).Wo e ws) : Does P κ o e ws := by
  obtain ⟨A, h, hA0, hA⟩ := rdX_sound h
  obtain ⟨B, h, hB0, hB⟩ := rdX_sound h
  obtain ⟨m, n, rfl, rfl, rfl⟩ := rdMinN_spec h
  refine does_value hd hn fun a w Z β hR => ?_
  have e1 := hA hR rfl
  have e2 := hB hR rfl
  refine ⟨.int .i64 (min m n), w, Z, β, ?_, hR.put d (.num _ _) (by simp)⟩
  generalize hx : a.eval x = vx at e1
  generalize hy : a.eval y = vy at e2
  cases e1
  cases e2
  simp [execOp, ho, resolve, invoke, builtin, hx, hy, Go.Lib.run_min_ints, Sem.run_bind]

def minOf (o : Oper) : Option (Nat × Operand × Operand) := match o.dst, o.guard, o.op with
  | some d, none, .call c => (match c.callee, c.args.toList with
    | .builtin .min, [x, y] => some (d, x, y)
    | _, _ => none)
  | _, _, _ => none

noncomputable def rdGM (P : Program) (Γ : Ctx) (tl : List Nat) (ops : Array Oper) (o : Oper) : Rd := match minOf o with
  | some (d, x, y) => rdMin d x y
  | none => rdG P Γ tl ops o

theorem minOf_spec {o : Oper} {d : Nat} {x y : Operand} (h : minOf o = some (d, x, y)) : o.dst = some d ∧ o.guard = none ∧ ∃ ts, o.op = .call { callee := .builtin .min, args := #[x, y], argTypes := ts } := by
  unfold minOf at h
  split at h
  · rename_i d' c h1 h2 h3
    split at h
    · rename_i x' y' h4 h5
      simp only [Option.some.injEq, Prod.mk.injEq] at h
      obtain ⟨rfl, rfl, rfl⟩ := h
      refine ⟨h1, h2, c.argTypes, ?_⟩
      rw [h3]
      obtain ⟨cal, args, ats⟩ := c
      dsimp only at h4 h5 ⊢
      subst h4
      have : args = #[x', y'] := by rw [← Array.toArray_toList (xs := args), h5]
      rw [this]
    · cases h
  · cases h

theorem rdGM_sound {P : Program} {κ : Con} {Γ : Ctx} (hΓ : ∀ f c, Γ f = some c → CtrOK P f c) {tl : List Nat} {ops : Array Oper} {o : Oper} {e : Env} {ws : List Wr} (hn : ∀ d, o.dst = some d → (κ.lim.1 ≤ d ∧ d < κ.lim.2)) (h : (rdGM P Γ tl ops o).Wo e ws) : Steps1 P κ ops o e ws := by
  unfold rdGM at h
  split at h
  · rename_i d x y hm
    obtain ⟨hd, hg, ts, ho⟩ := minOf_spec hm
    intro Q K a w hs hK
    have hw : Region.wanted o (yielded ops a.tmps) = true := by simp [Region.wanted, hg]
    rw [if_pos hw]
    exact .inl (rdMin_sound ho hd (hn d hd) h Q K a w hs hK)
  · exact rdG_sound hΓ hn h

end Go.Proofs.YtehdfifncbokeaaGreat

namespace Go.Proofs.YtehdfifncbokeaaGreat
set_option linter.unusedSimpArgs false
set_option linter.unusedVariables false
set_option maxRecDepth 8000
set_option maxHeartbeats 2000000
open Go Go.RowKit AV

def RunFR (R : Nat → Rd) (F : Nat → Fp) : List Nat → Env → Env → Prop
  | [], e, e' => e' = e
  | i :: l, e, e' => (R i).Ok e (F i) ∧ RunFR R F l (apps (F i).ws e) e'

def anyAR (R : Nat → Rd) (ops : Array Oper) (K : Env → Prop) : Nat → Array Bool → Env → Prop
  | 0, listed, e => Region.ready .any ops listed = [] ∧ K e
  | n + 1, listed, e => (Region.ready .any ops listed = [] → K e) ∧ ∀ i ∈ Region.ready .any ops listed, ∃ f, (R i).Ok e f ∧ anyAR R ops K n (listed.setIfInBounds i true) (apps f.ws e)

section
variable {R : Nat → Rd} {ops : Array Oper}

theorem bubbleR {F : Nat → Fp} {i : Nat} {l2 : List Nat} {e' : Env} : ∀ (l1 : List Nat) {e : Env}, RunFR R F (l1 ++ i :: l2) e e' → (∀ j ∈ l1, indep (F j) (F i) = true) → RunFR R F (i :: (l1 ++ l2)) e e'
  | [], e, h, _ => h
  | j :: l1, e, ⟨h1, h⟩, hi => by
    obtain ⟨h2, h3⟩ := bubbleR l1 h fun k hk => hi k (by simp [hk])
    obtain ⟨g1, g2, g3⟩ := swap h1 h2 (hi j (by simp))
    refine ⟨g1, g2, ?_⟩
    rw [← g3]
    exact h3

theorem anyAR_of_run {F : Nat → Fp} {K : Env → Prop} {e' : Env} (hf : fwdB ops = true) (hK : K e') : ∀ (n : Nat) (l : List Nat) (listed : Array Bool) (e : Env), l.length = n → listed.size = ops.size → (∀ i, i ∈ l ↔ i < ops.size ∧ listed.getD i true = false) → l.Pairwise (· < ·) →
    (∀ j ∈ l, ∀ i ∈ l, j < i → ordB (befB ops) j i = true ∨ indep (F j) (F i) = true) → Down ops listed → RunFR R F l e e' → anyAR R ops K n listed e := by
  have hready : ∀ (l : List Nat) (listed : Array Bool), listed.size = ops.size → (∀ i, i ∈ l ↔ i < ops.size ∧ listed.getD i true = false) → l.Pairwise (· < ·) → l ≠ [] → Region.ready .any ops listed ≠ [] := by
    intro l listed hsz hl hp hne hr
    cases l with
    | nil => exact hne rfl
    | cons i l =>
      obtain ⟨hi, hli⟩ := (hl i).1 (by simp)
      have : i ∈ Region.ready .any ops listed := by
        rw [mem_ready]
        refine ⟨hli, ops[i], Array.getElem?_eq_getElem hi, fun ed he hb => ?_⟩
        have hlt : ed.on < i := by
          have := List.all_eq_true.1 hf (ops[i], i) (by
            rw [List.mem_zipIdx_iff_getElem?]
            simp [hi])
          simp only [Array.all_eq_true_iff_forall_mem] at this
          have := this ed he
          simpa [hb] using this
        have hlts : ed.on < listed.size := by omega
        cases hv : listed.getD ed.on false with
        | true => rfl
        | false =>
          have : ed.on ∈ i :: l := (hl _).2 ⟨by omega, by simpa [hlts] using hv⟩
          rcases List.mem_cons.1 this with h | h
          · omega
          · have := (List.pairwise_cons.1 hp).1 _ h; omega
      rw [hr] at this
      cases this
  intro n
  induction n with
  | zero =>
    intro l listed e hn hsz hl hp hi hD hrun
    have : l = [] := List.eq_nil_of_length_eq_zero hn
    subst this
    have : e' = e := hrun
    subst this
    refine ⟨?_, hK⟩
    cases hr : Region.ready .any ops listed with
    | nil => rfl
    | cons i r =>
      exfalso
      have hm : i ∈ Region.ready .any ops listed := by rw [hr]; simp
      obtain ⟨h1, o, ho, _⟩ := mem_ready.1 hm
      have := (hl i).2 ⟨(Array.getElem?_eq_some_iff.1 ho).1, h1⟩
      cases this
  | succ n ih =>
    intro l listed e hn hsz hl hp hi hD hrun
    have hne : l ≠ [] := by rintro rfl; simp at hn
    refine ⟨fun h => absurd h (hready l listed hsz hl hp hne), fun i hir => ?_⟩
    obtain ⟨h1, o, ho, hall⟩ := mem_ready.1 hir
    have hios : i < ops.size := (Array.getElem?_eq_some_iff.1 ho).1
    have him : i ∈ l := (hl i).2 ⟨hios, h1⟩
    obtain ⟨l1, l2, rfl⟩ := List.append_of_mem him
    have hp' := List.pairwise_append.1 hp
    have hlt1 : ∀ j ∈ l1, j < i := fun j hj => hp'.2.2 j hj i (by simp)
    obtain ⟨hok, hrest⟩ := bubbleR l1 hrun fun j hj => by
      rcases hi j (by simp [hj]) i (by simp) (hlt1 j hj) with h | h
      · exfalso
        have := ord_listed hf hD hsz (i + 1) i (by omega) (.inl hir) j h
        have hj' := (hl j).1 (by simp [hj])
        have hjs : j < listed.size := by omega
        have h3 := hj'.2
        simp [hjs] at this h3
        rw [h3] at this
        cases this
      · exact h
    refine ⟨F i, hok, ?_⟩
    have hne1 : ∀ j, j ∈ l1 ++ l2 → j ≠ i := by
      intro j hj
      rcases List.mem_append.1 hj with h | h
      · have := hlt1 j h; omega
      · have := (List.pairwise_cons.1 hp'.2.1).1 j h; omega
    refine ih (l1 ++ l2) _ _ (by simp at hn ⊢; omega) (by simpa using hsz) (fun j => ?_) ?_ (fun j hj k hk hlt => hi j (by simp at hj ⊢; rcases hj with h | h <;> simp [h]) k (by simp at hk ⊢; rcases hk with h | h <;> simp [h]) hlt) ?_ hrest
    · constructor
      · intro hj
        have hji := hne1 j hj
        have := (hl j).1 (by simp at hj ⊢; rcases hj with h | h <;> simp [h])
        exact ⟨this.1, by rw [getD_set_ne true (Ne.symm hji)]; exact this.2⟩
      · rintro ⟨hj, hjl⟩
        by_cases hji : j = i
        · subst hji
          have hjs : j < listed.size := by omega
          simp [hjs] at hjl
        · rw [getD_set_ne true (Ne.symm hji)] at hjl
          have := (hl j).2 ⟨hj, hjl⟩
          simp at this ⊢
          rcases this with h | h | h
          · exact .inl h
          · exact absurd h hji
          · exact .inr h
    · refine List.pairwise_append.2 ⟨hp'.1, (List.pairwise_cons.1 hp'.2.1).2, fun a ha b hb => hp'.2.2 a ha b (by simp [hb])⟩
    · intro k ok hok' hlk hks ed hed hb
      by_cases hki : k = i
      · subst hki
        rw [ho] at hok'
        injection hok' with hok'
        subst hok'
        exact getD_set_true (hall ed hed hb)
      · rw [getD_set_ne true (Ne.symm hki)] at hlk
        exact getD_set_true (hD k ok hok' hlk (by simpa using hks) ed hed hb)

def wpOpsDR (R : Nat → Rd) (B : Array Nat) : List Oper → Nat → List (Nat × Fp) → Env → (Env → Prop) → Prop
  | [], _, acc, e, K => chkP B acc = true ∧ K e
  | o :: rest, i, acc, e, K => (R i).D e [] [] [] fun f => wpOpsDR R B rest (i + 1) ((i, f) :: acc) (apps f.ws e) K

theorem wpOpsDR_run {K : Env → Prop} : ∀ (l : List Oper) (i : Nat) (acc : List (Nat × Fp)) (e : Env), (∀ j, l[j]? = ops[i + j]?) → wpOpsDR R (befB ops) l i acc e K →
    ∃ (F : Nat → Fp) (e' : Env), RunFR R F (List.range' i l.length) e e' ∧ K e' ∧ (∀ p ∈ acc, ∀ k, i ≤ k → k < i + l.length → ordB (befB ops) p.1 k = true ∨ indep p.2 (F k) = true) ∧
      (∀ j k, i ≤ j → j < k → k < i + l.length → ordB (befB ops) j k = true ∨ indep (F j) (F k) = true) ∧ chkP (befB ops) acc = true
  | [], i, acc, e, _, h => ⟨fun _ => ⟨[], [], [], []⟩, e, rfl, h.2, fun p _ k h1 h2 => by simp at h2; omega, fun j k h1 h2 h3 => by simp at h3; omega, h.1⟩
  | o :: l, i, acc, e, hl, h => by
    obtain ⟨f, g, g1, g3, g4, _⟩ := Rd.D.ok h
    have h0 : ops[i]? = some o := by simpa using (hl 0).symm
    obtain ⟨F, e', r1, r2, r3, r4, r5⟩ := wpOpsDR_run l (i + 1) _ _ (fun j => by have := hl (j + 1); simpa [Nat.add_assoc, Nat.add_comm 1 j] using this) g3
    simp only [chkP, Bool.and_eq_true] at r5
    obtain ⟨g2, r6⟩ := r5
    have hF : ∀ k, i < k → (fun k => if k = i then f else F k) k = F k := fun k hk => by simp [Nat.ne_of_gt hk]
    refine ⟨fun k => if k = i then f else F k, e', ?_, r2, fun p hp k hk1 hk2 => ?_, fun j k hj hjk hk => ?_, r6⟩
    · simp only [List.length_cons, List.range'_succ, RunFR, if_true]
      refine ⟨g1, ?_⟩
      rw [g4.2.2.2]
      have cong : ∀ (m : List Nat) (e1 : Env), (∀ x ∈ m, i < x) → RunFR R F m e1 e' → RunFR R (fun k => if k = i then f else F k) m e1 e' := by
        intro m
        induction m with
        | nil => intro e1 _ h; exact h
        | cons x m ih =>
          intro e1 hm ⟨h1, h2⟩
          have hx := hF x (hm x (by simp))
          simp only at hx
          simp only [RunFR, hx]
          exact ⟨h1, ih _ (fun y hy => hm y (by simp [hy])) h2⟩
      exact cong _ _ (fun x hx => by have := List.mem_range'_1.1 hx; omega) r1
    · simp only [List.length_cons] at hk2
      by_cases hki : k = i
      · subst hki
        have := List.all_eq_true.1 g2 p hp
        simp only [Bool.or_eq_true] at this
        simp only [if_true]
        exact this.imp id fun h => indep_mono ⟨fun _ h => h, fun _ h => h, fun _ h => h, rfl⟩ g4 h
      · simp only [hki, if_false]
        exact r3 p (by simp [hp]) k (by omega) (by omega)
    · simp only [List.length_cons] at hk
      by_cases hji : j = i
      · subst hji
        have hkj : k ≠ j := by omega
        simp only [if_true, hkj, if_false]
        exact (r3 (j, g) (by simp) k (by omega) (by omega)).imp id fun h => indep_mono g4 ⟨fun _ h => h, fun _ h => h, fun _ h => h, rfl⟩ h
      · have hki : k ≠ i := by omega
        simp only [hji, hki, if_false]
        exact r4 j k (by omega) hjk (by omega)

end

section
variable {P : Program} {ops : Array Oper} {R : Nat → Rd} {S : Env → Act → World → Prop}
def StepsS (P : Program) (ops : Array Oper) (R : Nat → Rd) (S : Env → Act → World → Prop) : Prop := ∀ i o, ops[i]? = some o → ∀ e ws, (R i).Wo e ws →
  ∀ (Q : Exit → Act → World → Prop) (K : Act → World → Prop) (a : Act) (w : World), S e a w → (∀ a' w', S (apps ws e) a' w' → K a' w') →
    if Region.wanted o (yielded ops a.tmps) then o.wp P a w K Q ∨ (o.asks P a w ∧ LetsOut Q) else K (a.put o.dst undef) w

theorem wpAny_of_anyAR (hR : StepsS P ops R S) {Q : Exit → Act → World → Prop} {K : Env → Prop} (hK : ∀ e a w, K e → S e a w → Q .normal a w) :
    ∀ (n : Nat) (listed : Array Bool) (e : Env) (a : Act) (w : World), anyAR R ops K n listed e → S e a w → wpAny P .any ops Q n listed a w
  | 0, listed, e, a, w, h, hs => ⟨h.1, hK e a w h.2 hs⟩
  | n + 1, listed, e, a, w, h, hs => by
    refine ⟨fun h0 => hK e a w (h.1 h0) hs, fun i hi => ?_⟩
    obtain ⟨f, hok, hrest⟩ := h.2 i hi
    obtain ⟨_, o, ho, _⟩ := mem_ready.1 hi
    have := hR i o ho e f.ws hok.wo Q (wpAny P .any ops Q n (listed.setIfInBounds i true)) a w hs fun a' w' hs' => wpAny_of_anyAR hR hK n _ _ a' w' hrest hs'
    unfold wpOp
    simp only [ho]
    exact this

theorem wpOpsDR_sound (hR : StepsS P ops R S) (hm : P.follows .mixedOrders = true) {id : Nat} {Q : Exit → Act → World → Prop} {K : Env → Prop} (hK : ∀ e a w, K e → S e a w → Q .normal a w)
    (hf : fwdB ops = true) {e : Env} {a : Act} {w : World} (h : wpOpsDR R (befB ops) ops.toList 0 [] e K) (hs : S e a { w with drawn := w.drawn + 1 }) : (Code.region id ops true).wp P Q a w := by
  obtain ⟨F, e', r1, r2, _, r4, _⟩ := wpOpsDR_run ops.toList 0 [] e (by simp) h
  refine wp_region_any hm (wpAny_of_anyAR hR hK _ _ _ _ _ ?_ hs)
  refine anyAR_of_run (F := F) hf r2 ops.size (List.range ops.size) (Array.replicate ops.size false) e (by simp) (by simp) (fun i => ?_) ?_ (fun j hj i hi hji => r4 j i (by omega) hji (by simp at hi ⊢; omega)) (fun i o ho hl hlt => ?_) ?_
  · simp only [List.mem_range]
    constructor
    · intro hi; exact ⟨hi, by simp [hi]⟩
    · exact fun h => h.1
  · exact List.pairwise_lt_range
  · have : i < ops.size := by simpa using hlt
    simp [this] at hl
  · rw [List.range_eq_range']
    simpa using r1
end

end Go.Proofs.YtehdfifncbokeaaGreat

namespace Go.Proofs.YtehdfifncbokeaaGreat
set_option linter.unusedSimpArgs false
set_option linter.unusedVariables false
set_option maxRecDepth 8000
set_option maxHeartbeats 2000000
open Go Go.RowKit AV

def lentMv (s0 : Nat) (o : Oper) : Option Nat := match o.dst, o.guard, o.op with
  | some d, none, .move (.tmp t) => if t = s0 then some d else none
  | _, _, _ => none

def lentCall (ms : List Nat) (s0 : Nat) (o : Oper) : Option (Nat × Oper) := match o.op with
  | .call c => (match c.args.toList with
    | .tmp t :: rest => if ms.contains t then some (t, { o with op := .call { c with args := (.tmp s0 :: rest).toArray } }) else none
    | _ => none)
  | _ => none

noncomputable def rdLR (P : Program) (Γ : Ctx) (tl : List Nat) (ops : Array Oper) (ms : List Nat) (s0 : Nat) (v0 : Value) (i : Nat) : Rd := match ops[i]? with
  | none => .fail
  | some o => match lentMv s0 o with
    | some d => .ret [.set d (.pin .junk v0)]
    | none => match lentCall ms s0 o with
      | some (t, o') => .get t fun A => .need (A = .pin .junk v0) (rdG P Γ tl ops o')
      | none => rdGM P Γ tl ops o

theorem eval_args {a : Act} {t s0 : Nat} {rest : List Operand} (h : vals a t = vals a s0) : (Operand.tmp t :: rest).toArray.map a.eval = (Operand.tmp s0 :: rest).toArray.map a.eval := by
  have h2 : a.eval (.tmp t) = a.eval (.tmp s0) := by rw [eval_tmp, eval_tmp]; exact h
  simp [h2]

theorem exec_lent {a : Act} {t s0 : Nat} {o : Oper} {c : Call} {rest : List Operand} (ho : o.op = .call c) (hc : c.args.toList = .tmp t :: rest) (h : vals a t = vals a s0) :
    execOp a.eval o = execOp a.eval { o with op := .call { c with args := (.tmp s0 :: rest).toArray } } := by
  obtain ⟨dst, op, ty, pos, after, guard⟩ := o
  dsimp only at ho
  subst ho
  obtain ⟨cal, args, ats⟩ := c
  dsimp only at hc
  have : args = (Operand.tmp t :: rest).toArray := by rw [← hc]
  subst this
  have h2 := eval_args (rest := rest) h
  have h3 : resolve a.eval { callee := cal, args := (Operand.tmp t :: rest).toArray, argTypes := ats } ty = resolve a.eval { callee := cal, args := (Operand.tmp s0 :: rest).toArray, argTypes := ats } ty := by
    unfold resolve
    dsimp only
    rw [h2]
    cases cal <;> simp
  simp only [execOp]
  rw [h3]

def noDst (s : Nat) (ops : List Oper) : Bool := ops.all fun o => match o.dst with
  | some d => !(d == s)
  | none => true
theorem noDst_spec {s : Nat} {ops : List Oper} (h : noDst s ops = true) {o : Oper} (ho : o ∈ ops) : o.dst ≠ some s := by
  have := List.all_eq_true.1 h o ho
  intro he
  rw [he] at this
  simp at this

theorem vals_put_ne {a : Act} {o : Option Nat} {u : Value} {s : Nat} (h : o ≠ some s) : vals (a.put o u) s = vals a s := by
  cases o with
  | none => rfl
  | some d =>
    have hd : d ≠ s := fun he => h (by rw [he])
    simp only [vals, Act.put, Array.getD_eq_getD_getElem?]
    rw [Array.getElem?_setIfInBounds_ne hd]

theorem wp_keeps {P : Program} {o : Oper} {a : Act} {w : World} {K : Act → World → Prop} {Q : Exit → Act → World → Prop} {s : Nat} (hd : o.dst ≠ some s) (h : o.wp P a w K Q) : o.wp P a w (fun a' w' => K a' w' ∧ vals a' s = vals a s) Q := by
  unfold Oper.wp at *
  generalize (execOp a.eval o).run P w = r at *
  cases r with
  | ok n w' =>
    cases n with
    | value v => exact ⟨h, vals_put_ne hd⟩
    | skip => exact ⟨h, vals_put_ne hd⟩
    | defer d => exact ⟨h, vals_put_ne (a := { a with defers := d :: a.defers }) hd⟩
    | enter f args =>
      refine Calls.mono h fun en w'' hen => ?_
      cases en with
      | returned v => exact ⟨hen, vals_put_ne hd⟩
      | panicked c => exact hen
      | outgrown => exact hen
    | row row args => exact Rows.mono h fun v w'' hv => ⟨hv, vals_put_ne hd⟩
    | _ => exact h
  | halt c w' => cases c <;> exact h

theorem stepsLR {P : Program} {κ : Con} {Γ : Ctx} (hΓ : ∀ f c, Γ f = some c → CtrOK P f c) {tl : List Nat} {ops : Array Oper} (ms : List Nat) (s0 : Nat) (v0 : Value) (hs0 : noDst s0 ops.toList = true) (hd : dstOK κ.lim ops.toList = true) :
    StepsS P ops (rdLR P Γ tl ops ms s0 v0) (fun e a w => St κ e a w ∧ vals a s0 = v0) := by
  intro i o ho e ws h
  have hmem : o ∈ ops.toList := by simpa using Array.mem_of_getElem? ho
  have hn := dstOK_spec hd hmem
  have hne := noDst_spec hs0 hmem
  have lift : ∀ (o' : Oper), o'.dst = o.dst → o'.guard = o.guard → (∀ (a : Act) (w : World), St κ e a w ∧ vals a s0 = v0 → execOp a.eval o' = execOp a.eval o) → Steps1 P κ ops o' e ws →
      ∀ (Q : Exit → Act → World → Prop) (K : Act → World → Prop) (a : Act) (w : World), (St κ e a w ∧ vals a s0 = v0) → (∀ a' w', (St κ (apps ws e) a' w' ∧ vals a' s0 = v0) → K a' w') →
        if Region.wanted o (yielded ops a.tmps) then o.wp P a w K Q ∨ (o.asks P a w ∧ LetsOut Q) else K (a.put o.dst undef) w := by
    intro o' hd' hg' hex hst Q K a w hs hK
    have hx := hex a w hs
    have key := hst Q (fun a' w' => St κ (apps ws e) a' w') a w hs.1 (fun _ _ h => h)
    have hw : Region.wanted o' (yielded ops a.tmps) = Region.wanted o (yielded ops a.tmps) := by simp only [Region.wanted, hg']
    rw [hw, hd'] at key
    have conv : ∀ (K' : Act → World → Prop), o'.wp P a w K' Q → o.wp P a w K' Q := by
      intro K' hwp
      unfold Oper.wp at *
      rw [hx] at hwp
      generalize (execOp a.eval o).run P w = r at *
      cases r with
      | ok n w' => cases n <;> first | (simp only [Oper.upon] at hwp ⊢; rw [hd'] at hwp; exact hwp) | exact hwp
      | halt c w' => cases c <;> exact hwp
    split
    · rename_i hyes
      rw [if_pos hyes] at key
      rcases key with key | ⟨k1, k2⟩
      · exact .inl (Oper.wp_mono (fun a' w' ⟨h1, h2⟩ => hK a' w' ⟨h1, h2.trans hs.2⟩) (wp_keeps hne (conv _ key)))
      · refine .inr ⟨?_, k2⟩
        unfold Oper.asks at *
        rw [hx] at k1
        exact k1
    · rename_i hno
      rw [if_neg hno] at key
      exact hK _ _ ⟨key, (vals_put_ne hne).trans hs.2⟩
  unfold rdLR at h
  rw [ho] at h
  dsimp only at h
  split at h
  · rename_i d hm
    have h' : ws = _ := h
    subst h'
    unfold lentMv at hm
    split at hm
    · rename_i d' t hd1 hg1 hop
      split at hm
      · rename_i ht
        injection hm with hm
        subst hm ht
        intro Q K a w ⟨hs, hv0⟩ hK
        have hw : Region.wanted o (yielded ops a.tmps) = true := by simp [Region.wanted, hg1]
        rw [if_pos hw]
        refine .inl ?_
        obtain ⟨h1, h2, Z, β, hR⟩ := hs
        have hrun : (execOp a.eval o).run P w = .ok (.value (vals a t)) w := by simp [execOp, hop, eval_tmp]
        unfold Oper.wp
        rw [hrun, Oper.upon_value, hd1]
        have hnd := hn d' hd1
        rw [hd1] at hne
        refine hK _ _ ⟨⟨h1, keep_put hnd h2, Z, β, ?_⟩, (vals_put_ne hne).trans hv0⟩
        rw [vals_put (by rw [h2.1]; exact hnd.2)]
        have hp : PRep Z (.pin .junk v0) (vals a t) := by rw [hv0]; exact .pin _ _ (.junk _)
        exact hR.put d' hp (by simp)
      · cases hm
    · cases hm
  · split at h
    · rename_i t o' hm
      obtain ⟨hj, hA, h⟩ := h
      unfold lentCall at hm
      split at hm
      · rename_i c hop
        split at hm
        · rename_i t' rest hargs
          split at hm
          · simp only [Option.some.injEq, Prod.mk.injEq] at hm
            obtain ⟨rfl, rfl⟩ := hm
            refine lift { o with op := .call { c with args := (.tmp s0 :: rest).toArray } } rfl rfl (fun a w hs => ?_) (rdG_sound hΓ hn h)
            have hv : vals a t' = vals a s0 := by
              obtain ⟨⟨h1, h2, Z, β, hR⟩, hv0⟩ := hs
              have hv := ORep.toP (hR.slot' hA (by simp)) rfl
              generalize hvv : vals a t' = vv at hv
              cases hv with
              | pin A v _ => exact hv0.symm
            exact (exec_lent hop hargs hv).symm
          · cases hm
        · cases hm
      · cases hm
    · exact lift o rfl rfl (fun _ _ _ => rfl) (rdGM_sound hΓ hn h)

def KOpsR (R : Nat → Rd) (B : Array Nat) (rest : List Oper) (i : Nat) (acc : List (Nat × Fp)) (e : Env) (K : Env → Prop) (f : Fp) : Prop := wpOpsDR R B rest (i + 1) ((i, f) :: acc) (apps f.ws e) K
theorem wpOpsDR_cons {R : Nat → Rd} {B : Array Nat} {e : Env} {K : Env → Prop} (o : Oper) (rest : List Oper) (i : Nat) (acc) : wpOpsDR R B (o :: rest) i acc e K = (R i).D e [] [] [] (KOpsR R B rest i acc e K) := rfl
theorem wpOpsDR_nil {R : Nat → Rd} {B : Array Nat} {e : Env} {K : Env → Prop} (i : Nat) (acc) : wpOpsDR R B [] i acc e K = (chkP B acc = true ∧ K e) := rfl
theorem KOpsR_app {R : Nat → Rd} {B : Array Nat} {e : Env} {K : Env → Prop} (rest : List Oper) (i : Nat) (acc) (f : Fp) : KOpsR R B rest i acc e K f = wpOpsDR R B rest (i + 1) ((i, f) :: acc) (apps f.ws e) K := rfl

theorem CW.drwL {P : Program} {κ : Con} {Q : QA} {e : Env} {Γ : Ctx} (hΓ : ∀ f c, Γ f = some c → CtrOK P f c) (hm : P.follows .mixedOrders = true) {id : Nat} {ops : List Oper} (ms : List Nat) (s0 : Nat) (hd : dstOK κ.lim ops = true) (hf : fwdB ops.toArray = true) (hs0 : noDst s0 ops = true)
    (h : ∀ v0 B, befB ops.toArray = B → wpOpsDR (rdLR P Γ (takenL ops) ops.toArray ms s0 v0) B ops 0 [] e (Q .normal)) : CW P κ (.region id ops.toArray true) Q e := fun a w hs =>
  wpOpsDR_sound (stepsLR hΓ ms s0 (vals a s0) (by simpa using hs0) (by simpa using hd)) hm (fun e' _ _ hq hs' => ⟨e', hq, hs'.1⟩) hf (by simpa using h _ _ rfl) ⟨⟨hs.1, hs.2.1, let ⟨Z, β, hR⟩ := hs.2.2; ⟨Z, β, hR.drew⟩⟩, rfl⟩

end Go.Proofs.YtehdfifncbokeaaGreat

namespace Go.Proofs.YtehdfifncbokeaaGreat
set_option linter.unusedSimpArgs false
set_option linter.unusedVariables false
set_option maxRecDepth 8000
set_option maxHeartbeats 2000000
open Go Go.RowKit AV

mutual
def noMap : AV → Bool
  | sh l => allM l
  | own l => allM l
  | orec _ l => allM l
  | srec _ l => allM l
  | mfn _ l => allM l
  | agg l => allM l
  | tup l => allM l
  | box l => allM l
  | pbox l => allM l
  | fn _ l => allM l
  | pcell v => noMap v
  | pin v _ => noMap v
  | omap ks vs => allM ks && allM vs
  | pmap _ _ => false
  | oiter _ _ _ => false
  | memo _ _ => false
  | _ => true
def allM : List AV → Bool
  | [] => true
  | a :: l => noMap a && allM l
end
end Go.Proofs.YtehdfifncbokeaaGreat

namespace Go.Proofs.YtehdfifncbokeaaGreat
set_option linter.unusedSimpArgs false
set_option linter.unusedVariables false
set_option maxRecDepth 8000
set_option maxHeartbeats 2000000
open Go Go.RowKit AV

end Go.Proofs.YtehdfifncbokeaaGreat

namespace Go.Proofs.YtehdfifncbokeaaGreat
set_option linter.unusedSimpArgs false
set_option linter.unusedVariables false
set_option maxRecDepth 8000
set_option maxHeartbeats 2000000
open Go Go.RowKit AV

def wpOpsL (R : Nat → Rd) : List Oper → Nat → Env → (Env → Prop) → Prop
  | [], _, e, K => K e
  | _ :: rest, i, e, K => (R i).W e fun ws => wpOpsL R rest (i + 1) (apps ws e) K

theorem wpOpsL_sound {P : Program} {ops : Array Oper} {R : Nat → Rd} {S : Env → Act → World → Prop} (hR : StepsS P ops R S) {Q : Exit → Act → World → Prop} {K : Env → Prop} (hK : ∀ e a w, K e → S e a w → Q .normal a w) :
    ∀ (l : List Oper) (i : Nat) (e : Env) (a : Act) (w : World), (∀ j, l[j]? = ops[i + j]?) → wpOpsL R l i e K → S e a w → wpList P ops Q l a w
  | [], i, e, a, w, _, h, hs => hK e a w h hs
  | o :: rest, i, e, a, w, hl, h, hs => by
    obtain ⟨ws, hw, h⟩ := Rd.W.wo h
    have h0 : ops[i]? = some o := by simpa using (hl 0).symm
    have := hR i o h0 e ws hw Q (wpList P ops Q rest) a w hs fun a' w' hs' => wpOpsL_sound hR hK rest (i + 1) _ a' w' (fun j => by have := hl (j + 1); simpa [Nat.add_assoc, Nat.add_comm 1 j] using this) h hs'
    unfold wpList
    exact this

def KOpsL (R : Nat → Rd) (rest : List Oper) (i : Nat) (e : Env) (K : Env → Prop) (ws : List Wr) : Prop := wpOpsL R rest (i + 1) (apps ws e) K
theorem wpOpsL_cons {R : Nat → Rd} {e : Env} {K : Env → Prop} (o : Oper) (rest : List Oper) (i : Nat) : wpOpsL R (o :: rest) i e K = (R i).W e (KOpsL R rest i e K) := rfl
theorem wpOpsL_nil {R : Nat → Rd} {e : Env} {K : Env → Prop} (i : Nat) : wpOpsL R [] i e K = K e := rfl
theorem KOpsL_app {R : Nat → Rd} {e : Env} {K : Env → Prop} (rest : List Oper) (i : Nat) (ws : List Wr) : KOpsL R rest i e K ws = wpOpsL R rest (i + 1) (apps ws e) K := rfl

end Go.Proofs.YtehdfifncbokeaaGreat

namespace Go.Proofs.YtehdfifncbokeaaGreat
set_option linter.unusedSimpArgs false
set_option linter.unusedVariables false
set_option maxRecDepth 8000
set_option maxHeartbeats 2000000
open Go Go.RowKit AV

def giveG (β : List Nat → Option Nat) (s t : Nat) : List Nat → Option Nat
  | 0 :: r => β (s :: r)
  | 1 :: r => β (t :: r)
  | _ => none

theorem giveG_spec {β : List Nat → Option Nat} {s t : Nat} {q : List Nat} {b : Nat} (h : giveG β s t q = some b) : (∃ r, q = 0 :: r ∧ β (s :: r) = some b) ∨ (∃ r, q = 1 :: r ∧ β (t :: r) = some b) := by
  unfold giveG at h
  split at h
  · exact .inl ⟨_, rfl, h⟩
  · exact .inr ⟨_, rfl, h⟩
  · cases h

section
variable {κ : Con} {Z : Nat → Option Obj} {β : List Nat → Option Nat} {e : Env} {val : Nat → Value} {w : World}

theorem Rep.callG (h : Rep κ Z β e val w) {s t d : Nat} (hst : s ≠ t) {Z' : Nat → Option Obj} {β' : List Nat → Option Nat} {w' : World} (hL : Left Z (giveG β s t) w Z' β' w') {A' r : AV} {vr : Value}
    (hA1 : ORep Z' w'.heap β' [1] A' (val s)) (hA' : ∀ s' p', A' ≠ .alias s' p' ∧ A' ≠ .valias s' p' ∧ A' ≠ .addr s' p' ∧ ∀ k, A' ≠ .win s' p' k)
    (hr : ORep Z' w'.heap β' [0] r vr) (hrp : ∀ s' p', r ≠ .alias s' p' ∧ r ≠ .valias s' p' ∧ r ≠ .addr s' p' ∧ ∀ k, r ≠ .win s' p' k) : ∃ β3, Rep κ Z' β3 (apps [.set t .junk, .set s A', .set d r] e) (setV val d vr) w' := by
  let β2 : List Nat → Option Nat := fun q => match q with
    | [] => none
    | x :: q' => if x = s then β' (1 :: q') else if x = t then none else β (x :: q')
  have b2s : ∀ q', β2 (s :: q') = β' (1 :: q') := fun q' => if_pos rfl
  have b2o : ∀ x q', x ≠ s → x ≠ t → β2 (x :: q') = β (x :: q') := fun x q' h1 h2 => by show (if x = s then _ else if x = t then _ else _) = _; rw [if_neg h1, if_neg h2]
  have b2t : ∀ q', β2 (t :: q') = none := fun q' => by show (if t = s then _ else if t = t then _ else _) = _; rw [if_neg (Ne.symm hst), if_pos rfl]
  have hout : ∀ x q' b, x ≠ s → x ≠ t → β (x :: q') = some b → ∀ q, giveG β s t q ≠ some b := by
    intro x q' b h1 h2 hb q hq
    rcases giveG_spec hq with ⟨r, _, hr'⟩ | ⟨r, _, hr'⟩
    · have := h.inj _ _ _ hb hr'; injection this with e1 e2; exact h1 e1
    · have := h.inj _ _ _ hb hr'; injection this with e1 e2; exact h2 e1
  have hgive : ∀ q b, giveG β s t q = some b → new κ b := fun q b hq => by
    rcases giveG_spec hq with ⟨r, _, hr'⟩ | ⟨r, _, hr'⟩ <;> exact (h.bo _ b hr').1
  have hnewS : ∀ b, w.heap.size ≤ b → new κ b := fun b hb => .inr (Nat.le_trans h.size hb)
  have hbo' : ∀ q b, β' q = some b → new κ b ∧ Z' b = none ∧ b < w'.heap.size := fun q b hq => by
    have hb := hL.bo q b hq
    refine ⟨?_, hb.2⟩
    rcases hb.1 with ⟨q', hq'⟩ | h1
    · exact hgive q' b hq'
    · exact hnewS b h1
  have hold : ∀ x q' b, x ≠ s → x ≠ t → β (x :: q') = some b → new κ b ∧ Z' b = none ∧ b < w'.heap.size := fun x q' b h1 h2 hq => by
    have hb := h.bo _ _ hq
    refine ⟨hb.1, ?_, Nat.lt_of_lt_of_le hb.2.2 hL.size⟩
    cases hz : Z' b with
    | none => rfl
    | some o =>
      exfalso
      rcases hL.zo b o hz with h3 | ⟨q2, hq2⟩ | h3
      · rw [hb.2.1] at h3; cases h3
      · exact hout x q' b h1 h2 hq q2 hq2
      · omega
  have apart : ∀ q x q' b, x ≠ s → x ≠ t → β' q = some b → β (x :: q') = some b → False := fun q x q' b h1 h2 g1 g2 => by
    rcases (hL.bo _ _ g1).1 with ⟨q2, hq2⟩ | h3
    · exact hout x q' b h1 h2 g2 q2 hq2
    · have := (h.bo _ _ g2).2.2; omega
  have hb2 : ∀ q b, β2 q = some b → new κ b ∧ Z' b = none ∧ b < w'.heap.size := by
    intro q b hq
    cases q with
    | nil => cases hq
    | cons x q =>
      by_cases hxs : x = s
      · subst hxs; rw [b2s] at hq; exact hbo' _ _ hq
      · by_cases hxt : x = t
        · subst hxt; rw [b2t] at hq; cases hq
        · rw [b2o _ _ hxs hxt] at hq; exact hold _ _ _ hxs hxt hq
  have hi2 : ∀ p q b, β2 p = some b → β2 q = some b → p = q := by
    intro p q b hp hq
    cases p with
    | nil => cases hp
    | cons x p =>
      cases q with
      | nil => cases hq
      | cons y q =>
        by_cases hxt : x = t
        · subst hxt; rw [b2t] at hp; cases hp
        by_cases hyt : y = t
        · subst hyt; rw [b2t] at hq; cases hq
        by_cases hxs : x = s <;> by_cases hys : y = s
        · subst hxs; subst hys
          rw [b2s] at hp hq
          have := hL.inj _ _ _ hp hq
          injection this with _ e2
          rw [e2]
        · subst hxs
          rw [b2s] at hp
          rw [b2o _ _ hys hyt] at hq
          exact (apart _ _ _ _ hys hyt hp hq).elim
        · subst hys
          rw [b2s] at hq
          rw [b2o _ _ hxs hxt] at hp
          exact (apart _ _ _ _ hxs hxt hq hp).elim
        · rw [b2o _ _ hxs hxt] at hp
          rw [b2o _ _ hys hyt] at hq
          exact h.inj _ _ _ hp hq
  have hR1 := h.big (Z' := Z') (β' := β2) (w' := w') [t, s] s (by simp) A' (val s) hL.os hL.tape hL.output hL.size (fun b hn hb => hL.frame b hb fun q hq => hn (hgive q b hq)) hL.z0
    (fun b o ho => by
      rcases hL.zo b o ho with h1 | ⟨q, hq⟩ | h1
      · exact .inl h1
      · exact .inr (hgive q b hq)
      · exact .inr (hnewS b h1)) hL.zh
    (fun q b hq hroot hb => by
      cases q with
      | nil => exact absurd rfl hq
      | cons x q =>
        have h1 : x ≠ t ∧ x ≠ s := by simpa [root] using hroot
        exact ⟨(b2o _ _ h1.2 h1.1).trans hb, hL.frame b (h.bo _ _ hb).2.2 (hout _ _ _ h1.2 h1.1 hb)⟩) hi2 hb2
    (hA1.move (fun _ _ h => h) fun q b hb => ⟨by rw [List.cons_append, List.nil_append, b2s]; exact hb, rfl⟩) hA'
  rw [app_set_drop2] at hR1
  have hv : setV val s (val s) = val := by funext x; unfold setV; split <;> simp_all
  rw [hv] at hR1
  let β3 : List Nat → Option Nat := fun q => match q with
    | [] => none
    | x :: q' => if x = d then β' (0 :: q') else β2 (x :: q')
  have b3d : ∀ q', β3 (d :: q') = β' (0 :: q') := fun q' => if_pos rfl
  have b3o : ∀ x q', x ≠ d → β3 (x :: q') = β2 (x :: q') := fun x q' hx => if_neg hx
  have apart2 : ∀ q' q2 b, β' (0 :: q') = some b → β2 q2 = some b → False := by
    intro q' q2 b g1 g2
    cases q2 with
    | nil => cases g2
    | cons x q2 =>
      by_cases hxs : x = s
      · subst hxs; rw [b2s] at g2
        have := hL.inj _ _ _ g1 g2
        simp at this
      · by_cases hxt : x = t
        · subst hxt; rw [b2t] at g2; cases g2
        · rw [b2o _ _ hxs hxt] at g2
          exact apart _ _ _ _ hxs hxt g1 g2
  refine ⟨β3, ?_⟩
  have := hR1.big (β' := β3) (Z' := Z') (w' := w') [d] d (by simp) r vr rfl rfl rfl (Nat.le_refl _) (fun _ _ _ => rfl) (fun _ _ h => h) (fun _ _ h => .inl h) hR1.zh (fun q b hq hroot hb => ?_) (fun q1 q2 b g1 g2 => ?_) (fun q b hq => ?_) (hr.move (fun _ _ h => h) fun q b hb => ⟨by rw [List.cons_append, List.nil_append, b3d]; exact hb, rfl⟩) hrp
  · rw [app_set_drop] at this
    exact this
  · cases q with
    | nil => exact absurd rfl hq
    | cons x q => exact ⟨(b3o x q (by simpa [root] using hroot)).trans hb, rfl⟩
  · cases q1 with
    | nil => cases g1
    | cons x q1 =>
      cases q2 with
      | nil => cases g2
      | cons y q2 =>
        by_cases hx : x = d <;> by_cases hy : y = d
        · subst hx; subst hy
          rw [b3d] at g1 g2
          have := hL.inj _ _ _ g1 g2
          injection this with _ e2
          rw [e2]
        · subst hx
          rw [b3d] at g1
          rw [b3o _ _ hy] at g2
          exact (apart2 q1 (y :: q2) b g1 g2).elim
        · subst hy
          rw [b3d] at g2
          rw [b3o _ _ hx] at g1
          exact (apart2 q2 (x :: q1) b g2 g1).elim
        · rw [b3o _ _ hx] at g1
          rw [b3o _ _ hy] at g2
          exact hi2 (x :: q1) (y :: q2) b g1 g2
  · cases q with
    | nil => cases hq
    | cons x q =>
      by_cases hx : x = d
      · subst hx; rw [b3d] at hq; exact hbo' _ _ hq
      · rw [b3o _ _ hx] at hq; exact hb2 (x :: q) b hq
end

noncomputable def rdG3 (Γ : Ctx) (d f s t u : Nat) : Rd := .get s fun X => .get t fun Y => .get u fun V => .need (isOwn X = true ∧ isOwn Y = true ∧ isOwn V = true ∧ isP (view V) = true ∧ s ≠ t ∧ s ≠ u ∧ t ≠ u)
  (rdAskE Γ f [X, Y, view V] fun r A' => .need ((isP r || isOwn r) = true ∧ isOwn A' = true) (.ret [.mod u [] (view V), .set t .junk, .set s A', .set d r]))

theorem mod_view_ne {e : Env} {u x : Nat} {V : AV} (h : x ≠ u) : (Wr.mod u [] (view V)).app e x = e x := by
  have := Wr.app_other (.mod u [] (view V)) e (t := x) (by simpa [Wr.slot] using h)
  rw [this]
  unfold Wr.killer
  rw [show isOwn (Wr.val (.mod u [] (view V))) = false from view_noOwn V]
  rfl

theorem rdG3_sound {P : Program} {κ : Con} {Γ : Ctx} (hΓ : ∀ f c, Γ f = some c → CtrOK P f c) {o : Oper} {e : Env} {ws : List Wr} {d f s t u : Nat} {ats : Array TypeId} (ho : o.op = .call { callee := .value (.func f), args := #[.tmp s, .tmp t, .tmp u], argTypes := ats }) (hd : o.dst = some d) (hn : κ.lim.1 ≤ d ∧ d < κ.lim.2)
    (h : (rdG3 Γ d f s t u).Wo e ws) : Does P κ o e ws := by
  intro Q K a w ⟨h1, h2, Z, β, hR⟩ hK
  obtain ⟨hs0, ht0, hu0, ⟨hX, hY, hV, hVp, hst, hsu, htu⟩, c, r, A', ⟨hc, heff, hrel⟩, ⟨hrP, hAo⟩, hw⟩ := h
  have hw' : ws = _ := hw
  subst hw'
  obtain ⟨hcan, hctr⟩ := hΓ f c hc
  have hVpl := plain_of_own (c := e u) (p := []) rfl hV
  obtain ⟨Z1, β1, hR1, _⟩ := hR.freeze u [] (e u) rfl hVpl.2 hVpl.1 (view_plain (e u)) (view_noOwn (e u))
  have es : (Wr.mod u [] (view (e u))).app e s = e s := mod_view_ne hsu
  have et : (Wr.mod u [] (view (e u))).app e t = e t := mod_view_ne htu
  have eu : (Wr.mod u [] (view (e u))).app e u = view (e u) := by
    have := Wr.app_slot (.mod u [] (view (e u))) e
    simpa [Wr.slot, Wr.cell, setP] using this
  have hs1 := hR1.slot' es (own_plain hX)
  have ht1 := hR1.slot' et (own_plain hY)
  have hu1 := ORep.toP (hR1.slot' eu (view_plain (e u))) hVp
  have hrun : (execOp a.eval o).run P w = .ok (.enter f (#[Operand.tmp s, .tmp t, .tmp u].map a.eval)) w := by
    simp [execOp, ho, resolve, Deferred.ofValue, eval_func, invoke, run_callFunc' hcan]
  have hvs : #[Operand.tmp s, .tmp t, .tmp u].map a.eval = #[vals a s, vals a t, vals a u] := by simp [eval_tmp]
  unfold Oper.wp
  rw [hrun, Oper.upon_enter, hvs]
  refine (hctr [e s, e t, view (e u)] r [A'] hrel w Z1 (giveG β1 s t) #[vals a s, vals a t, vals a u] rfl ⟨hR1.zh, fun q1 q2 b g1 g2 => ?_, fun q b g => ?_⟩ (by
    rw [heff]
    simp only [if_true]
    intro i hi
    have hi' : i = 0 ∨ i = 1 ∨ i = 2 := by simp at hi; omega
    rcases hi' with rfl | rfl | rfl
    · exact hs1.move (fun _ _ h => h) fun q b hb => ⟨by simpa [giveG] using hb, rfl⟩
    · exact ht1.move (fun _ _ h => h) fun q b hb => ⟨by simpa [giveG] using hb, rfl⟩
    · exact .pers hu1)).mono ?_
  · rcases giveG_spec g1 with ⟨r1, rfl, e1⟩ | ⟨r1, rfl, e1⟩ <;> rcases giveG_spec g2 with ⟨r2, rfl, e2⟩ | ⟨r2, rfl, e2⟩
    · have := hR1.inj _ _ _ e1 e2; injection this with _ e3; rw [e3]
    · have := hR1.inj _ _ _ e1 e2; injection this with e3 _; exact absurd e3 hst
    · have := hR1.inj _ _ _ e1 e2; injection this with e3 _; exact absurd e3.symm hst
    · have := hR1.inj _ _ _ e1 e2; injection this with _ e3; rw [e3]
  · rcases giveG_spec g with ⟨r1, rfl, e1⟩ | ⟨r1, rfl, e1⟩ <;> exact (hR1.bo _ _ e1).2
  · rintro en w' ⟨vr, Z', β', rfl, hL, hr, ha'⟩
    have hA1 := ha' 0 (by simp)
    simp only [List.getElem_cons_zero] at hA1
    have hrp : ∀ s' p', r ≠ .alias s' p' ∧ r ≠ .valias s' p' ∧ r ≠ .addr s' p' ∧ ∀ k, r ≠ .win s' p' k := by
      cases hp : isP r with
      | true => exact isP_plain hp
      | false => rw [hp, Bool.false_or] at hrP; exact own_plain hrP
    obtain ⟨β3, hR3⟩ := hR1.callG hst hL (d := d) hA1 (own_plain hAo) hr hrp
    show K (a.put o.dst vr) w'
    rw [hd]
    refine hK _ _ ⟨h1, keep_put hn h2, Z', β3, ?_⟩
    rw [vals_put (by rw [h2.1]; exact hn.2)]
    exact hR3

end Go.Proofs.YtehdfifncbokeaaGreat

namespace Go.Proofs.YtehdfifncbokeaaGreat
set_option linter.unusedSimpArgs false
set_option linter.unusedVariables false
set_option maxRecDepth 8000
set_option maxHeartbeats 2000000
open Go Go.RowKit AV

theorem liftS {P : Program} {κ : Con} {ops : Array Oper} {e : Env} {ws : List Wr} {s0 : Nat} {v0 : Value} {o : Oper} (hne : o.dst ≠ some s0) : ∀ (o' : Oper), o'.dst = o.dst → o'.guard = o.guard → (∀ (a : Act) (w : World), St κ e a w ∧ vals a s0 = v0 → execOp a.eval o' = execOp a.eval o) → Steps1 P κ ops o' e ws →
      ∀ (Q : Exit → Act → World → Prop) (K : Act → World → Prop) (a : Act) (w : World), (St κ e a w ∧ vals a s0 = v0) → (∀ a' w', (St κ (apps ws e) a' w' ∧ vals a' s0 = v0) → K a' w') →
        if Region.wanted o (yielded ops a.tmps) then o.wp P a w K Q ∨ (o.asks P a w ∧ LetsOut Q) else K (a.put o.dst undef) w := by
    intro o' hd' hg' hex hst Q K a w hs hK
    have hx := hex a w hs
    have key := hst Q (fun a' w' => St κ (apps ws e) a' w') a w hs.1 (fun _ _ h => h)
    have hw : Region.wanted o' (yielded ops a.tmps) = Region.wanted o (yielded ops a.tmps) := by simp only [Region.wanted, hg']
    rw [hw, hd'] at key
    have conv : ∀ (K' : Act → World → Prop), o'.wp P a w K' Q → o.wp P a w K' Q := by
      intro K' hwp
      unfold Oper.wp at *
      rw [hx] at hwp
      generalize (execOp a.eval o).run P w = r at *
      cases r with
      | ok n w' => cases n <;> first | (simp only [Oper.upon] at hwp ⊢; rw [hd'] at hwp; exact hwp) | exact hwp
      | halt c w' => cases c <;> exact hwp
    split
    · rename_i hyes
      rw [if_pos hyes] at key
      rcases key with key | ⟨k1, k2⟩
      · exact .inl (Oper.wp_mono (fun a' w' ⟨h1, h2⟩ => hK a' w' ⟨h1, h2.trans hs.2⟩) (wp_keeps hne (conv _ key)))
      · refine .inr ⟨?_, k2⟩
        unfold Oper.asks at *
        rw [hx] at k1
        exact k1
    · rename_i hno
      rw [if_neg hno] at key
      exact hK _ _ ⟨key, (vals_put_ne hne).trans hs.2⟩

def lent3 (ms : List Nat) (g : Nat) (o : Oper) : Option (Nat × Nat × Nat × Nat × Oper) := match o.dst, o.guard, o.op with
  | some d, none, .call c => (match c.callee, c.args.toList with
    | .value (.func f), [.tmp t, .tmp y, .tmp z] => if f = g ∧ ms.contains t = true then some (t, y, z, d, o) else none
    | _, _ => none)
  | _, _, _ => none

noncomputable def rdLG (P : Program) (Γ : Ctx) (tl : List Nat) (ops : Array Oper) (ms : List Nat) (g s0 : Nat) (v0 : Value) (i : Nat) : Rd := match ops[i]? with
  | none => .fail
  | some o => match lent3 ms g o with
    | some (t, y, z, d, _) => .get t fun A => .need (A = .pin .junk v0) (rdG3 Γ d g s0 y z)
    | none => rdLR P Γ tl ops ms s0 v0 i

theorem stepsLG {P : Program} {κ : Con} {Γ : Ctx} (hΓ : ∀ f c, Γ f = some c → CtrOK P f c) {tl : List Nat} {ops : Array Oper} (ms : List Nat) (g s0 : Nat) (v0 : Value) (hs0 : noDst s0 ops.toList = true) (hd : dstOK κ.lim ops.toList = true) :
    StepsS P ops (rdLG P Γ tl ops ms g s0 v0) (fun e a w => St κ e a w ∧ vals a s0 = v0) := by
  intro i o ho e ws h
  have hmem : o ∈ ops.toList := by simpa using Array.mem_of_getElem? ho
  have hn := dstOK_spec hd hmem
  have hne := noDst_spec hs0 hmem
  have h' := h
  unfold rdLG at h
  rw [ho] at h
  dsimp only at h
  split at h
  · rename_i t y z d o2 hm
    obtain ⟨hj, hA, h⟩ := h
    unfold lent3 at hm
    split at hm
    · rename_i d' c hd1 hg1 hop
      split at hm
      · rename_i f t' y' z' hcal hargs
        split at hm
        · rename_i hf
          simp only [Option.some.injEq, Prod.mk.injEq] at hm
          obtain ⟨rfl, rfl, rfl, rfl, rfl⟩ := hm
          obtain ⟨rfl, _⟩ := hf
          have hop2 : ({ c with args := (Operand.tmp s0 :: [.tmp y', .tmp z']).toArray } : Call) = { callee := .value (.func f), args := #[.tmp s0, .tmp y', .tmp z'], argTypes := c.argTypes } := by
            obtain ⟨cal, args, ats⟩ := c
            dsimp only at hcal ⊢
            rw [hcal]
          have hdoes : Does P κ { o with op := .call { c with args := (Operand.tmp s0 :: [.tmp y', .tmp z']).toArray } } e ws := rdG3_sound (o := { o with op := .call { c with args := (Operand.tmp s0 :: [.tmp y', .tmp z']).toArray } }) hΓ (congrArg Op.call hop2) hd1 (hn _ hd1) h
          refine liftS hne { o with op := .call { c with args := (Operand.tmp s0 :: [.tmp y', .tmp z']).toArray } } rfl rfl (fun a w hs => ?_) (fun Q K a w hs hK => ?_)
          · have hv : vals a t' = vals a s0 := by
              obtain ⟨⟨h1, h2, Z, β, hR⟩, hv0⟩ := hs
              have hv := ORep.toP (hR.slot' hA (by simp)) rfl
              generalize hvv : vals a t' = vv at hv
              cases hv with
              | pin A v _ => exact hv0.symm
            exact (exec_lent hop hargs hv).symm
          · have hw : Region.wanted { o with op := .call { c with args := (Operand.tmp s0 :: [.tmp y', .tmp z']).toArray } } (yielded ops a.tmps) = true := by simp [Region.wanted, hg1]
            rw [if_pos hw]
            exact .inl (hdoes Q K a w hs hK)
        · cases hm
      · cases hm
    · cases hm
  · exact stepsLR hΓ ms s0 v0 hs0 hd i o ho e ws h

theorem CW.regG {P : Program} {κ : Con} {Q : QA} {e : Env} {Γ : Ctx} (hΓ : ∀ f c, Γ f = some c → CtrOK P f c) {id : Nat} {ops : List Oper} (ms tx : List Nat) (g s0 : Nat) (hd : dstOK κ.lim ops = true) (hs0 : noDst s0 ops = true)
    (h : ∀ v0, wpOpsL (rdLG P Γ (tx ++ takenL ops) ops.toArray ms g s0 v0) ops 0 e (Q .normal)) : CW P κ (.region id ops.toArray false) Q e := fun a w hs =>
  wp_region_lit (wpOpsL_sound (stepsLG hΓ ms g s0 (vals a s0) (by simpa using hs0) (by simpa using hd)) (fun e' _ _ hq hs' => ⟨e', hq, hs'.1⟩) ops 0 e a w (fun j => by simp) (h _) ⟨hs, rfl⟩)

end Go.Proofs.YtehdfifncbokeaaGreat

namespace Go.Proofs.YtehdfifncbokeaaGreat
set_option linter.unusedSimpArgs false
set_option linter.unusedVariables false
set_option maxRecDepth 8000
set_option maxHeartbeats 2000000
open Go Go.RowKit AV

noncomputable def rdSrcP (y : Operand) (k : List AV → Option Nat → Rd) : Rd := match y with
  | .tmp t => .get t fun v => match v with
    | .win s q j => .get s fun c => rdGetP c q fun X => match X with
      | .own l => .need (allP (l.take (j - bigW)) = true ∧ bigW ≤ j ∧ j - bigW ≤ l.length) (k (l.take (j - bigW)) none)
      | _ => .fail
    | _ => rdSrc y k
  | _ => rdSrc y k

theorem rdSrcP_sound {e : Env} {y : Operand} {k : List AV → Option Nat → Rd} {ws : List Wr} (h : (rdSrcP y k).Wo e ws) : ∃ m src, (k m src).Wo e ws ∧ (∀ t, src = some t → y = .tmp t ∧ e t = .own m) ∧
    ∀ {κ Z β w} {a : Act}, Rep κ Z β e (vals a) w → ∃ us, SrcOK w (a.eval y) m.length us ∧ (∀ t, src = some t → ∀ k (h : k < m.length), ORep Z w.heap β [t, k] m[k] (us k)) ∧ (src = none → ∀ k (h : k < m.length), PRep Z m[k] (us k)) := by
  cases y with
  | tmp t =>
    obtain ⟨hj, h⟩ := h
    cases het : e t with
    | win s q j =>
      simp only [het] at h
      obtain ⟨hsj, X, hl, h⟩ := h
      dsimp only at h
      split at h
      case h_2 => exact h.elim
      rename_i l
      obtain ⟨⟨hp, hjb, hjl⟩, h⟩ := h
      refine ⟨l.take (j - bigW), none, h, by simp, fun {κ Z β w a} hR => ?_⟩
      obtain ⟨u, hu, hv⟩ := hR.winAt het _ hl
      obtain ⟨us, h1, h2, h3⟩ := ORep.row hu
      rw [eval_tmp, hv]
      have hlen : (l.take (j - bigW)).length = j - bigW := by simp; omega
      refine ⟨us, ⟨fun k hk => h1 k (by omega), ?_⟩, by simp, fun _ k hk => ?_⟩
      · rw [hlen]
        rcases h3 with ⟨hl0, hv0⟩ | ⟨b, c, cs, T, hv0, hb, hz, _, _, _, hus⟩
        · rw [hl0] at hjl
          have h0 : j - bigW = 0 := by simpa using hjl
          exact .inl ⟨h0, none, 0, by rw [hv0]; simp [dropV, Nat.not_lt.2 hjb, h0]⟩
        · exact .inr ⟨b, 0, c, by rw [hv0]; simp [dropV, Nat.not_lt.2 hjb], fun k hk => cell_heap hz (by simpa using hus k (by omega))⟩
      · have hk' : k < l.length := by omega
        have := ORep.toP (h2 k hk') (by
          have := (allP_iff _).1 hp _ (List.getElem_mem hk)
          simpa using this)
        simpa using this
    | _ => simp only [het] at h; exact rdSrc_sound h
  | _ => exact rdSrc_sound h

noncomputable def rdAppP (P : Program) (T T2 d : Nat) (x y : Operand) : Rd := .need (slOK P T = true ∧ slOK P T2 = true) (rdSrcP y fun m t2 => rdDst x fun l t1 => .need ((t1 = none ∨ t1 ≠ t2) ∧ l.length + m.length ≤ 1099511627776 ∧ t1 ≠ some d ∧ t2 ≠ some d)
  (.ret (srcW t1 ++ srcW t2 ++ [.set d (.own (l ++ m))])))

theorem rdAppP_sound {P : Program} {κ : Con} {o : Oper} {e : Env} {ws : List Wr} {T T2 d : Nat} {x y : Operand} (ho : o.op = .call { callee := .builtin .append, args := #[x, y], argTypes := #[T, T2] }) (hd : o.dst = some d) (hn : (κ.lim.1 ≤ d ∧ d < κ.lim.2)) (h : (rdAppP P T T2 d x y).Wo e ws) : Does P κ o e ws := by
  obtain ⟨⟨hT, hT2⟩, h⟩ := h
  obtain ⟨m, t2, h, hs2, hsrc⟩ := rdSrcP_sound h
  obtain ⟨l, t1, h, hdst⟩ := rdDst_sound h
  obtain ⟨⟨ht12, hlen, ht1d, ht2d⟩, hw⟩ := h
  have hw' : ws = _ := hw
  subst hw'
  obtain ⟨E, i, z, hu, hi, hi1, hi2, hz, hz1⟩ := slOK_spec hT
  obtain ⟨E2, i2, z2, hu2, _, _, _, _, _⟩ := slOK_spec hT2
  refine does_value hd hn fun a w Z β hR => ?_
  obtain ⟨us2, hso, hown2, hper2⟩ := hsrc hR
  have hS := hso.src (P := P) hu2
  have hrun : ∀ v w', (Builtin.append_ #[T, T2] o.type #[a.eval x, a.eval y]).run P w = .ok v w' → (execOp a.eval o).run P w = .ok (.value v) w' := by
    intro v w' hv
    simp [execOp, ho, resolve, invoke, builtin, hv]
  let S : List Nat := t1.toList ++ t2.toList
  have hSd : d ∉ S := by simp [S]; exact ⟨fun h => ht1d (by simp [h]), fun h => ht2d (by simp [h])⟩
  have hws : (srcW t1 ++ srcW t2 ++ [Wr.set d (.own (l ++ m))]) = (S.map fun t => Wr.set t .junk) ++ [.set d (.own (l ++ m))] := by
    cases t1 <;> cases t2 <;> rfl
  have hkeep := apF_keep t1 t2 l.length d S (by intro t ht; simp [S, ht]) (by intro t ht; simp [S, ht])
  have hinjF := apF_inj (t1 := t1) (t2 := t2) (n := l.length) (d := d) ht12
  have hold : ∃ us1 : Nat → Value, (∀ k, k < l.length → (us1 k).oneCell' = true) ∧ (∀ k (h : k < l.length), ∀ (β' : List Nat → Option Nat) (H' : Array Obj), (∀ r b, viaF (apF t1 t2 l.length d) β (d :: k :: r) = some b → β' (d :: k :: r) = some b ∧ H'[b]? = w.heap[b]?) → ORep Z H' β' [d, k] l[k] (us1 k)) ∧
      ((l = [] ∧ a.eval x = .slice none 0 0) ∨ ∃ b c cs Tb, a.eval x = .slice (some ⟨b, 0, none⟩) l.length c ∧ viaF (apF t1 t2 l.length d) β [d] = some b ∧ w.heap[b]? = some (.cells cs Tb (0, 0)) ∧ l.length ≤ c ∧ c = cs.size ∧ c ≤ maxLen ∧ ∀ k, k < l.length → cs[k]? = some (us1 k)) := by
    rcases hdst with ⟨rfl, rfl, rfl⟩ | ⟨t, rfl, rfl, het⟩
    · exact ⟨fun _ => undef, by simp, by simp, .inl ⟨rfl, rfl⟩⟩
    · obtain ⟨us, h1, h2, h3⟩ := ORep.row (hR.slot' het (by simp))
      refine ⟨us, h1, fun k hk β' H' hβ => ?_, ?_⟩
      · refine (h2 k hk).move (fun _ _ h => h) fun r b hr => ?_
        have := hβ r b (by simp [viaF, apF, hk]; simpa using hr)
        simpa using this
      · rcases h3 with ⟨hl, hv⟩ | ⟨b, c, cs, Tb, hv, hb, rest⟩
        · exact .inl ⟨hl, hv⟩
        · exact .inr ⟨b, c, cs, Tb, hv, by simp [viaF, apF]; exact hb, rest⟩
  obtain ⟨us1, hone1, hrep1, hv1⟩ := hold
  have hrep2 : ∀ k (h : k < m.length), ∀ (β' : List Nat → Option Nat) (H' : Array Obj), (∀ r b, viaF (apF t1 t2 l.length d) β (d :: (l.length + k) :: r) = some b → β' (d :: (l.length + k) :: r) = some b ∧ H'[b]? = w.heap[b]?) → ORep Z H' β' [d, l.length + k] m[k] (us2 k) := by
    intro k hk β' H' hβ
    cases hs : t2 with
    | none => exact .pers (hper2 hs k hk)
    | some t =>
      refine (hown2 t hs k hk).move (fun _ _ h => h) fun r b hr => ?_
      have := hβ r b (by
        have : ¬ (l.length + k < l.length) := by omega
        simp [viaF, apF, this, hs]; simpa using hr)
      simpa using this
  let us : Nat → Value := fun k => if k < l.length then us1 k else us2 (k - l.length)
  have hus : ∀ k, k < (l ++ m).length → (us k).oneCell' = true := by
    intro k hk
    simp only [List.length_append] at hk
    show (if k < l.length then us1 k else us2 (k - l.length)).oneCell' = true
    split
    · exact hone1 k (by assumption)
    · exact hso.one _ (by omega)
  have fin : ∀ (β' : List Nat → Option Nat) (w' : World) (b c : Nat) (cs : Array Value) (Tb : TypeId), β' [d] = some b → w'.heap[b]? = some (.cells cs Tb (0, 0)) → l.length + m.length ≤ c → c = cs.size → c ≤ maxLen → (∀ k, k < l.length + m.length → cs[k]? = some (us k)) →
      (∀ k r b, viaF (apF t1 t2 l.length d) β (d :: k :: r) = some b → β' (d :: k :: r) = some b ∧ w'.heap[b]? = w.heap[b]?) → ORep Z w'.heap β' [d] (.own (l ++ m)) (.slice (some ⟨b, 0, none⟩) (l.length + m.length) c) := by
    intro β' w' b c cs Tb hb hzb h1 h2 h3 hcs hβ
    have := ORep.own (Z := Z) (H := w'.heap) (β := β') (p := [d]) (l ++ m) b c cs Tb us hb hzb (by simpa using h1) h2 h3 (fun k hk => hcs k (by simpa using hk)) hus (fun k hk => by
      simp only [List.length_append] at hk
      by_cases hkl : k < l.length
      · rw [List.getElem_append_left hkl]
        show ORep Z w'.heap β' [d, k] l[k] (if k < l.length then us1 k else us2 (k - l.length))
        rw [if_pos hkl]
        exact hrep1 k hkl β' w'.heap (hβ k)
      · rw [List.getElem_append_right (by omega)]
        show ORep Z w'.heap β' [d, k] m[k - l.length] (if k < l.length then us1 k else us2 (k - l.length))
        rw [if_neg hkl]
        have := hrep2 (k - l.length) (by omega) β' w'.heap (by rw [show l.length + (k - l.length) = k by omega]; exact hβ k)
        rwa [show l.length + (k - l.length) = k by omega] at this)
    rw [List.length_append] at this
    exact this
  have h48 : ∀ cap, cap < l.length + m.length → Builtin.nextslicecap (l.length + m.length) cap * i.bytes ≤ 281474976710656 := by
    intro cap hc
    refine growslice_fits hc ?_
    have := Nat.mul_le_mul hlen hi2
    omega
  have h63 : ((l.length + m.length : Nat) : Int) ≤ 9223372036854775807 := by omega
  have grow : ∀ (base : Option Addr) (cap : Nat), a.eval x = .slice base l.length cap → (Builtin.firstCells i.size l.length (.slice base l.length cap)).run P w.drew = .ok (newsOf l.length us1).toArray w.drew → cap < l.length + m.length →
      ∃ u w' Z' β', (execOp a.eval o).run P w = .ok (.value u) w' ∧ Rep κ Z' β' (apps ((S.map fun t => Wr.set t .junk) ++ [.set d (.own (l ++ m))]) e) (setV (vals a) d u) w' := by
    intro base cap hx hfc hc
    have hg := run_append_grow_src w T T2 o.type E i z hu hi hz base l.length cap (newsOf l.length us1) hfc (a.eval y) m.length (newsOf m.length us2) (by rw [hi1]; exact hS) hc h63 (h48 cap hc)
    have hge := grownCap_ge w (l.length + m.length) cap E
    have hle := grownCap_le_maxLen w (l.length + m.length) cap E (by unfold maxLen; omega)
    generalize hgc : grownCap w (l.length + m.length) cap E = gc at hg hge hle
    generalize hcs : ((newsOf l.length us1 ++ newsOf m.length us2).toArray ++ Builtin.zeroCells z.cells (gc - (l.length + m.length))) = cs at hg
    have hcsz : cs.size = gc := by
      rw [← hcs]; simp [newsOf, size_zeroCells, cells_one hz1]; omega
    have hck : ∀ k, k < l.length + m.length → cs[k]? = some (us k) := by
      intro k hk
      rw [← hcs]
      rw [Array.getElem?_append_left (by simp [newsOf]; omega)]
      simp only [List.getElem?_toArray]
      by_cases hkl : k < l.length
      · rw [List.getElem?_append_left (by simpa [newsOf] using hkl), newsOf_get hkl]
        simp [us, hkl]
      · rw [List.getElem?_append_right (by simp [newsOf]; omega)]
        simp only [newsOf, List.length_map, List.length_range]
        have := newsOf_get (us := us2) (show k - l.length < m.length by omega)
        simp only [newsOf] at this
        rw [this]
        simp [us, hkl]
    have hori := fin (withB (viaF (apF t1 t2 l.length d) β) d w.heap.size) (w.drew.alloc (.cells cs E)) w.heap.size gc cs E (by simp [withB]) (heap_alloc_new w.drew _) hge (by omega) hle hck (fun k r b hb => ⟨by simpa [withB] using hb, Below.heap_alloc w.drew _ b (by
      have := viaF_bo (Q := fun b => b < w.heap.size) (fun p b hp => (hR.bo p b hp).2.2) _ b hb; exact this)⟩)
    refine ⟨_, _, Z, withB (viaF (apF t1 t2 l.length d) β) d w.heap.size, hrun _ _ (by rw [hx]; exact hg), ?_⟩
    exact hR.bigParts S d (apF t1 t2 l.length d) _ _ _ rfl rfl rfl (by show w.heap.size ≤ (w.drew.alloc _).heap.size; simp) (fun b hb => Below.heap_alloc w.drew _ b hb) hkeep (.inr ⟨rfl, by show w.heap.size < (w.drew.alloc _).heap.size; simp⟩) hinjF hori (by simp)
  rw [hws]
  rcases hv1 with ⟨hl0, hx⟩ | ⟨b, c, cs, Tb, hx, hb, hzb, hlc, hcc, hcm, hcs⟩
  · subst hl0
    by_cases hm0 : m = []
    · subst hm0
      have hn := hS.newsLen
      have hap : (Builtin.append_ #[T, T2] o.type #[a.eval x, a.eval y]).run P w = .ok (.slice none 0 0) w := by
        rw [hx]
        have hl := hS.len w
        have hc := hS.cells
        simp only [List.length_nil] at hl hc
        simp [Builtin.append_, run_underlying hu, run_underlying hu2, sizeOf, typeInfo, hi, hi1, hl, hc, newsOf]
      refine ⟨_, w, Z, viaF (apF t1 t2 0 d) β, hrun _ _ hap, ?_⟩
      exact hR.bigParts S d (apF t1 t2 0 d) (.own ([] ++ [])) _ _ rfl rfl rfl (Nat.le_refl _) (fun b hb => rfl) hkeep (.inl rfl) hinjF .nil (by simp)
    · have hm1 : 0 < m.length := List.length_pos_iff.2 hm0
      refine grow none 0 hx ?_ (by simpa using hm1)
      have := run_firstCells_none (P := P) w.drew i.size 0 0 0
      simpa [newsOf] using this
  · by_cases hroom : l.length + m.length ≤ c
    · have hcell : ∀ j, j < (newsOf m.length us2).length → l.length * i.size + j < cs.size := by
        intro j hj; simp [newsOf] at hj; rw [hi1]; omega
      have hrm := run_append_room_src w T T2 o.type E i hu hi b 0 l.length c (a.eval y) m.length (newsOf m.length us2) (by rw [hi1]; exact hS) hroom (fun j hj => by
          rw [cell_of_row w b _ cs Tb (0, 0) hzb]
          have := hcell j hj
          rw [show 0 + l.length * i.size + j = l.length * i.size + j by omega]
          simp [this]) (fun j hj => by simp [World.frozen?, hzb])
      rw [hi1] at hrm
      simp only [Nat.mul_one, Nat.zero_add] at hrm
      obtain ⟨cs', g1, g2, g3, g4, g5, g6, g7, g8, g9, g10⟩ := setCells_heap (newsOf m.length us2) l.length w cs hzb (by simp [newsOf]; omega)
      have hck : ∀ k, k < l.length + m.length → cs'[k]? = some (us k) := by
        intro k hk
        by_cases hkl : k < l.length
        · rw [g3 k hkl, hcs k hkl]; simp [us, hkl]
        · have := g4 (k - l.length) (by simp [newsOf]; omega)
          rw [show l.length + (k - l.length) = k by omega] at this
          rw [this, newsOf_get (by omega)]
          simp [us, hkl]
      have hinjV := viaF_inj hinjF hR.inj
      have hori := fin (viaF (apF t1 t2 l.length d) β) (w.setCells b l.length (newsOf m.length us2)) b c cs' Tb hb g1 hroom (by omega) hcm hck (fun k r b' hb' => ⟨hb', g6 b' (by
        rintro rfl
        have := hinjV _ _ _ hb' hb
        simp at this)⟩)
      refine ⟨_, _, Z, viaF (apF t1 t2 l.length d) β, hrun _ _ (by rw [hx]; exact hrm), ?_⟩
      rw [apps_append, apps_drops]
      show Rep κ Z _ ((Wr.set d (.own (l ++ m))).app (dropS S e)) _ _
      rw [← app_set_dropC]
      have hbo := viaF_bo (f := apF t1 t2 l.length d) hR.bo
      have hbb := hbo _ _ hb
      refine hR.big (d :: S) d (by simp) _ _ g8 g9 g10 (by rw [g7]; exact Nat.le_refl _) (fun b' hn _ => g6 b' (by rintro rfl; exact hn hbb.1)) (fun _ _ h => h) (fun _ _ h => .inl h)
        (fun b' o' ho' => by rw [g6 b' (by rintro rfl; rw [hbb.2.1] at ho'; cases ho')]; exact hR.zh b' o' ho') (fun r b' hr hn hb' => ⟨by simp [viaF, hkeep r hr hn, hb'], g6 b' ?_⟩) hinjV (fun p b' hp => by have := hbo p b' hp; rw [g7]; exact this) hori (by simp)
      rintro rfl
      have h1 : viaF (apF t1 t2 l.length d) β r = some b' := by simp [viaF, hkeep r hr hn, hb']
      have := hinjV _ _ _ h1 hb
      subst this
      simp [root] at hn
    · refine grow (some ⟨b, 0, none⟩) c hx ?_ (by omega)
      rw [hi1]
      refine run_firstCells_some w.drew 1 l.length ⟨b, 0, none⟩ l.length c _ (by simp [newsOf]) (fun j v hj => ?_)
      have hjl : j < l.length := by have := (List.getElem?_eq_some_iff.1 hj).1; simpa [newsOf] using this
      rw [newsOf_get hjl] at hj
      injection hj with hj
      subst hj
      have hadd : (⟨b, 0, none⟩ : Addr).add j = ⟨b, j, none⟩ := by unfold Addr.add; split <;> simp_all
      rw [hadd]
      exact cell_heap (w := w.drew) hzb (hcs j hjl)

def appOf (o : Oper) : Option (Nat × Nat × Nat × Operand × Operand) := match o.dst, o.guard, o.op with
  | some d, none, .call c => (match c.callee, c.args.toList, c.argTypes.toList with
    | .builtin .append, [x, y], [T, T2] => some (T, T2, d, x, y)
    | _, _, _ => none)
  | _, _, _ => none

noncomputable def rdGA (P : Program) (Γ : Ctx) (tl : List Nat) (ops : Array Oper) (o : Oper) : Rd := match appOf o with
  | some (T, T2, d, x, y) => rdAppP P T T2 d x y
  | none => rdG P Γ tl ops o

theorem appOf_spec {o : Oper} {T T2 d : Nat} {x y : Operand} (h : appOf o = some (T, T2, d, x, y)) : o.dst = some d ∧ o.guard = none ∧ o.op = .call { callee := .builtin .append, args := #[x, y], argTypes := #[T, T2] } := by
  unfold appOf at h
  split at h
  · rename_i d' c h1 h2 h3
    split at h
    · rename_i x' y' T' T2' h4 h5 h6
      simp only [Option.some.injEq, Prod.mk.injEq] at h
      obtain ⟨rfl, rfl, rfl, rfl, rfl⟩ := h
      refine ⟨h1, h2, ?_⟩
      rw [h3]
      obtain ⟨cal, args, ats⟩ := c
      dsimp only at h4 h5 h6 ⊢
      subst h4
      have e1 : args = #[x', y'] := by rw [← Array.toArray_toList (xs := args), h5]
      have e2 : ats = #[T', T2'] := by rw [← Array.toArray_toList (xs := ats), h6]
      rw [e1, e2]
    · cases h
  · cases h

theorem rdGA_sound {P : Program} {κ : Con} {Γ : Ctx} (hΓ : ∀ f c, Γ f = some c → CtrOK P f c) {tl : List Nat} {ops : Array Oper} {o : Oper} {e : Env} {ws : List Wr} (hn : ∀ d, o.dst = some d → (κ.lim.1 ≤ d ∧ d < κ.lim.2)) (h : (rdGA P Γ tl ops o).Wo e ws) : Steps1 P κ ops o e ws := by
  unfold rdGA at h
  split at h
  · rename_i T T2 d x y hm
    obtain ⟨hd, hg, ho⟩ := appOf_spec hm
    intro Q K a w hs hK
    have hw : Region.wanted o (yielded ops a.tmps) = true := by simp [Region.wanted, hg]
    rw [if_pos hw]
    exact .inl (rdAppP_sound ho hd (hn d hd) h Q K a w hs hK)
  · exact rdG_sound hΓ hn h

def wpOpsQ (P : Program) (Γ : Ctx) (tl : List Nat) (ops : Array Oper) : List Oper → Env → (Env → Prop) → Prop
  | [], e, K => K e
  | o :: rest, e, K => (rdGA P Γ tl ops o).W e fun ws => wpOpsQ P Γ tl ops rest (apps ws e) K

theorem wpOpsQ_sound {P : Program} {κ : Con} {Γ : Ctx} (hΓ : ∀ f c, Γ f = some c → CtrOK P f c) {tl : List Nat} {ops : Array Oper} {Q : Exit → Act → World → Prop} {K : Env → Prop} (hK : ∀ e a w, K e → St κ e a w → Q .normal a w) :
    ∀ (l : List Oper) (e : Env) (a : Act) (w : World), dstOK κ.lim l = true → wpOpsQ P Γ tl ops l e K → St κ e a w → wpList P ops Q l a w
  | [], e, a, w, _, h, hs => hK e a w h hs
  | o :: rest, e, a, w, hd, h, hs => by
    obtain ⟨ws, hw, h⟩ := Rd.W.wo h
    have hn := dstOK_spec hd (List.mem_cons_self ..)
    have hd' : dstOK κ.lim rest = true := by simp only [dstOK, List.all_cons, Bool.and_eq_true] at hd; exact hd.2
    have := rdGA_sound hΓ hn hw Q (wpList P ops Q rest) a w hs fun a' w' hs' => wpOpsQ_sound hΓ hK rest _ a' w' hd' h hs'
    unfold wpList
    exact this

def KOpsQ (P : Program) (Γ : Ctx) (tl : List Nat) (ops : Array Oper) (rest : List Oper) (e : Env) (K : Env → Prop) (ws : List Wr) : Prop := wpOpsQ P Γ tl ops rest (apps ws e) K
theorem wpOpsQ_cons {P : Program} {Γ : Ctx} {tl : List Nat} {ops : Array Oper} {e : Env} {K : Env → Prop} (o : Oper) (rest : List Oper) : wpOpsQ P Γ tl ops (o :: rest) e K = (rdGA P Γ tl ops o).W e (KOpsQ P Γ tl ops rest e K) := rfl
theorem wpOpsQ_nil {P : Program} {Γ : Ctx} {tl : List Nat} {ops : Array Oper} {e : Env} {K : Env → Prop} : wpOpsQ P Γ tl ops [] e K = K e := rfl
theorem KOpsQ_app {P : Program} {Γ : Ctx} {tl : List Nat} {ops : Array Oper} {e : Env} {K : Env → Prop} (rest : List Oper) (ws : List Wr) : KOpsQ P Γ tl ops rest e K ws = wpOpsQ P Γ tl ops rest (apps ws e) K := rfl

theorem CW.regQ {P : Program} {κ : Con} {Q : QA} {e : Env} {Γ : Ctx} (hΓ : ∀ f c, Γ f = some c → CtrOK P f c) {id : Nat} {ops : List Oper} (hd : dstOK κ.lim ops = true) (h : wpOpsQ P Γ (takenL ops) ops.toArray ops e (Q .normal)) : CW P κ (.region id ops.toArray false) Q e := fun a w hs =>
  wp_region_lit (wpOpsQ_sound hΓ (fun e' _ _ hq hs' => ⟨e', hq, hs'⟩) ops e a w hd h hs)

end Go.Proofs.YtehdfifncbokeaaGreat

namespace Go.Proofs.YtehdfifncbokeaaGreat
set_option linter.unusedSimpArgs false
set_option linter.unusedVariables false
set_option maxRecDepth 8000
set_option maxHeartbeats 2000000
open Go Go.RowKit AV

end Go.Proofs.YtehdfifncbokeaaGreat
