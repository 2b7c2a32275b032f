/- Operations one by one: what is built and made, parts of what is there. No program in sight. -/
import Derived.Test.YtechllcflknnlaaEng7
namespace Go.Proofs.Ytechllcflknnlaa
set_option linter.unusedSimpArgs false
set_option linter.unusedVariables false
set_option maxRecDepth 8000
open Go Go.RowKit AV

theorem apps_append (a b : List Wr) (e : Env) : apps (a ++ b) e = apps b (apps a e) := by
  induction a generalizing e with
  | nil => rfl
  | cons x a ih => exact ih _

theorem apps_drops (ts : List Nat) (e : Env) : apps (ts.map fun t => .set t .junk) e = dropS ts e := by
  induction ts generalizing e with
  | nil => funext x; simp [apps, dropS]
  | cons t ts ih =>
    simp only [List.map_cons, apps]
    rw [ih, drop_app]
    funext x
    simp only [dropS]
    by_cases h1 : x ∈ ts <;> by_cases h2 : x = t <;> simp [h1, h2]

theorem app_set_dropC (d : Nat) (S : List Nat) (A : AV) (e : Env) : (Wr.set d A).app (dropS (d :: S) e) = (Wr.set d A).app (dropS S e) := by
  funext x
  simp only [Wr.app]
  by_cases hxd : x = d
  · cases isOwn A <;> simp [upd, hxd]
  · cases isOwn A <;> simp [upd, kill, dropS, hxd]

/-- Where the parts come from: part k of slot d out of slot src k. -/
def gaF (src : Nat → Option Nat) (ts : List Nat) (d : Nat) : List Nat → Option (List Nat)
  | [] => none
  | [x] => if x = d ∨ x ∈ ts then none else some [x]
  | x :: k :: r => if x = d then (src k).map fun t => t :: r else if x ∈ ts then none else some (x :: k :: r)

theorem gaF_inj {src : Nat → Option Nat} {ts : List Nat} {d : Nat} (hs : ∀ j k t, src j = some t → src k = some t → j = k) (hts : ∀ k t, src k = some t → t ∈ ts) :
    ∀ r1 r2 x, gaF src ts d r1 = some x → gaF src ts d r2 = some x → r1 = r2 := by
  intro r1 r2 x h1 h2
  rcases r1 with _ | ⟨a, _ | ⟨k, r1⟩⟩
  · simp [gaF] at h1
  · simp only [gaF] at h1
    split at h1
    · cases h1
    · rename_i hn
      injection h1 with h1
      subst h1
      rcases r2 with _ | ⟨b, _ | ⟨j, r2⟩⟩
      · simp [gaF] at h2
      · simp only [gaF] at h2
        split at h2
        · cases h2
        · injection h2 with h2; exact h2.symm
      · simp only [gaF] at h2
        split at h2
        · cases hj : src j with
          | none => simp [hj] at h2
          | some t =>
            simp [hj] at h2
            exact absurd (.inr (h2.1 ▸ hts _ _ hj)) hn
        · split at h2
          · cases h2
          · simp at h2
  · simp only [gaF] at h1
    split at h1
    · rename_i ha
      cases hk : src k with
      | none => simp [hk] at h1
      | some t =>
        simp only [hk, Option.map_some, Option.some.injEq] at h1
        subst h1
        rcases r2 with _ | ⟨b, _ | ⟨j, r2⟩⟩
        · simp [gaF] at h2
        · simp only [gaF] at h2
          split at h2
          · cases h2
          · rename_i hn
            simp at h2
            exact absurd (.inr (h2.1 ▸ hts _ _ hk)) hn
        · simp only [gaF] at h2
          split at h2
          · rename_i hb
            cases hj : src j with
            | none => simp [hj] at h2
            | some t' =>
              simp [hj] at h2
              have := hs k j t hk (by rw [hj, h2.1])
              simp_all
          · split at h2
            · cases h2
            · rename_i hn
              simp at h2
              exact absurd (h2.1 ▸ hts _ _ hk) hn
    · rename_i ha
      split at h1
      · cases h1
      · rename_i hn
        injection h1 with h1
        subst h1
        rcases r2 with _ | ⟨b, _ | ⟨j, r2⟩⟩
        · simp [gaF] at h2
        · simp only [gaF] at h2
          split at h2
          · cases h2
          · simp at h2
        · simp only [gaF] at h2
          split at h2
          · cases hj : src j with
            | none => simp [hj] at h2
            | some t' =>
              simp [hj] at h2
              exact absurd (h2.1 ▸ hts _ _ hj) hn
          · split at h2
            · cases h2
            · injection h2 with h2; exact h2.symm

/-- The block of slot d, besides. -/
def withB (β : List Nat → Option Nat) (d b : Nat) : List Nat → Option Nat := fun r => if r = [d] then some b else β r

theorem withB_inj {β : List Nat → Option Nat} {d b : Nat} (h : ∀ p q b, β p = some b → β q = some b → p = q) (hb : ∀ p, β p ≠ some b) : ∀ p q b', withB β d b p = some b' → withB β d b q = some b' → p = q := by
  intro p q b' h1 h2
  unfold withB at h1 h2
  split at h1 <;> split at h2
  · simp_all
  · injection h1 with h1; subst h1; exact absurd h2 (hb q)
  · injection h2 with h2; subst h2; exact absurd h1 (hb p)
  · exact h p q b' h1 h2

/-- Parts: a number, what it is, and whether it is taken out of a slot. -/
abbrev Parts := List (Nat × AV × Option Nat)

def srcs (ps : Parts) : List Nat := ps.filterMap fun p => p.2.2
def srcOf (ps : Parts) (k : Nat) : Option Nat := (ps.find? fun p => p.1 == k).bind fun p => p.2.2
def foldP (ps : Parts) (l : List AV) : List AV := ps.foldl (fun l p => l.set p.1 p.2.1) l

def rdParts : List (Nat × Operand) → (Parts → Rd) → Rd
  | [], k => k []
  | (i, x) :: ps, k => rdVal x fun A src => rdParts ps fun l => k ((i, A, src) :: l)

/-- The values of parts. -/
def PartsOK (Z : Nat → Option Obj) (H : Array Obj) (β : List Nat → Option Nat) (e : Env) (ps : Parts) (vs : List (Nat × Value)) : Prop :=
  List.map (·.1) ps = List.map (·.1) vs ∧ ∀ (i : Nat) (h : i < ps.length) (h' : i < vs.length),
    (∀ t, (ps[i]).2.2 = some t → e t = (ps[i]).2.1 ∧ isOwn (ps[i]).2.1 = true ∧ ORep Z H β [t] (ps[i]).2.1 (vs[i]).2) ∧ ((ps[i]).2.2 = none → ∀ Z' H' β' p, (∀ b o, Z b = some o → Z' b = some o) → ORep Z' H' β' p (ps[i]).2.1 (vs[i]).2)

theorem rdParts_sound {e : Env} {ws : List Wr} : ∀ (xs : List (Nat × Operand)) (k : Parts → Rd), (rdParts xs k).Wo e ws → ∃ ps, (k ps).Wo e ws ∧ (∀ p ∈ ps, ∀ s q, p.2.1 ≠ .alias s q ∧ p.2.1 ≠ .valias s q ∧ p.2.1 ≠ .addr s q) ∧
    ∀ {κ Z β w} {a : Act}, Rep κ Z β e (vals a) w → PartsOK Z w.heap β e ps (xs.map fun p => (p.1, a.eval p.2))
  | [], k, h => ⟨[], h, by simp, fun _ => ⟨rfl, fun i h => by simp at h⟩⟩
  | (i, x) :: xs, k, h => by
    obtain ⟨A, src, h, hpl, hsrc, hval⟩ := rdVal_sound h
    obtain ⟨ps, h, hpls, hps⟩ := rdParts_sound xs _ h
    refine ⟨_, h, ?_, fun {κ Z β w a} hR => ?_⟩
    · intro p hp
      rcases List.mem_cons.1 hp with rfl | hp
      · exact hpl
      · exact hpls p hp
    · obtain ⟨h1, h2⟩ := hps hR
      obtain ⟨h3, h4, h5⟩ := hval hR
      refine ⟨by simpa using h1, fun j hj hj' => ?_⟩
      cases j with
      | zero =>
        refine ⟨fun t ht => ?_, fun hn Z' H' β' p hZ => ?_⟩
        · have := hsrc t ht
          exact ⟨this.2.1, this.2.2, h3 t ht⟩
        · rcases h5 hn with hp | ⟨hA, hv⟩
          · exact .pers ((ORep.toP (h4 hn p) hp).mono hZ)
          · simp only [List.getElem_cons_zero, List.map_cons]
            rw [hA, hv]; exact .nil
      | succ j => exact h2 j (by simpa using hj) (by simpa using hj')

/-- The parts, laid one by one into a row: the row reads as the list. -/
theorem foldP_rep {Rel : Nat → AV → Value → Prop} : ∀ (ps : Parts) (vs : List (Nat × Value)) (l : List AV) (cs : Array Value), cs.size = l.length → List.map (·.1) ps = List.map (·.1) vs →
    (∀ (i : Nat) (h : i < ps.length) (h' : i < vs.length), Rel (ps[i]).1 (ps[i]).2.1 (vs[i]).2) → (∀ k (h : k < l.length), Rel k l[k] (cs.getD k undef)) →
    (vs.foldl (fun (cs : Array Value) p => cs.setIfInBounds p.1 p.2) cs).size = (foldP ps l).length ∧ ∀ k (h : k < (foldP ps l).length), Rel k (foldP ps l)[k] ((vs.foldl (fun (cs : Array Value) p => cs.setIfInBounds p.1 p.2) cs).getD k undef)
  | [], vs, l, cs, hs, hm, _, hk => by
    have : vs = [] := by simpa using hm.symm
    subst this
    exact ⟨by simpa [foldP] using hs, by simpa [foldP] using hk⟩
  | p :: ps, [], l, cs, hs, hm, _, hk => by simp at hm
  | p :: ps, v :: vs, l, cs, hs, hm, hR, hk => by
    simp only [List.map_cons, List.cons.injEq] at hm
    have h0 := hR 0 (by simp) (by simp)
    simp only [List.getElem_cons_zero] at h0
    have := foldP_rep ps vs (l.set p.1 p.2.1) (cs.setIfInBounds v.1 v.2) (by simpa using hs) hm.2 (fun i h h' => hR (i + 1) (by simp; omega) (by simp; omega)) (fun k h => by
      have hkl : k < l.length := by simpa using h
      by_cases hp : p.1 = k
      · subst hp
        rw [← hm.1]
        have hlt : p.1 < cs.size := by omega
        simpa [Array.getD_eq_getD_getElem?, Array.getElem?_setIfInBounds, hlt] using h0
      · rw [List.getElem_set_ne hp, ← hm.1]
        simpa [Array.getD_eq_getD_getElem?, Array.getElem?_setIfInBounds_ne hp] using hk k hkl)
    simpa [foldP] using this

theorem fill_one {place : Nat → Option (Nat × Nat)} {off : Nat → Nat} : ∀ (vs : List (Nat × Value)) (cs : Array Value), (∀ p ∈ vs, place p.1 = some (off p.1, 1) ∧ p.2.cells = #[p.2] ∧ off p.1 < cs.size) →
    Instr.fill place cs vs = some ((vs.map fun p => (off p.1, p.2)).foldl (fun (cs : Array Value) p => cs.setIfInBounds p.1 p.2) cs)
  | [], cs, _ => by simp [Instr.fill]
  | (i, v) :: vs, cs, h => by
    obtain ⟨h1, h2, h3⟩ := h (i, v) (by simp)
    simp only at h1 h2 h3
    have h4 : ¬ (cs.size < off i + 1) := by omega
    simp only [Instr.fill, h1, h2, List.map_cons, List.foldl_cons]
    rw [if_neg (by simp; omega)]
    have e1 : (Array.foldl (fun (cs : Array Value) (x : Value × Nat) => match x with | (c, j) => cs.setIfInBounds (off i + j) c) cs (#[v].zipIdx)) = cs.setIfInBounds (off i) v := by
      simp [Array.zipIdx]
    refine Eq.trans ?_ (fill_one vs (cs.setIfInBounds (off i) v) fun p hp => by simpa using h p (by simp [hp]))
    congr 1

theorem nodup_src {ps : Parts} (hk : (ps.map (·.1)).Nodup) (i : Nat) (h : i < ps.length) : srcOf ps (ps[i]).1 = (ps[i]).2.2 := by
  unfold srcOf
  have : ps.find? (fun p => p.1 == (ps[i]).1) = some ps[i] := by
    rw [List.find?_eq_some_iff_getElem]
    refine ⟨by simp, i, h, rfl, fun j hj => ?_⟩
    have := List.pairwise_iff_getElem.1 hk j i (by simp; omega) (by simpa using h) hj
    simpa using this
  rw [this]; rfl

theorem srcs_inj {ps : Parts} (hs : (srcs ps).Nodup) (hk : (ps.map (·.1)).Nodup) : (∀ j k t, srcOf ps j = some t → srcOf ps k = some t → j = k) ∧ ∀ k t, srcOf ps k = some t → t ∈ srcs ps := by
  have hf : ∀ k t, srcOf ps k = some t → ∃ p ∈ ps, p.1 = k ∧ p.2.2 = some t := by
    intro k t h
    unfold srcOf at h
    cases hf : ps.find? fun p => p.1 == k with
    | none => simp [hf] at h
    | some p =>
      simp [hf] at h
      exact ⟨p, List.mem_of_find?_eq_some hf, by simpa using List.find?_some hf, h⟩
  refine ⟨fun j k t h1 h2 => ?_, fun k t h => ?_⟩
  · obtain ⟨p, hp, rfl, hpt⟩ := hf j t h1
    obtain ⟨q, hq, rfl, hqt⟩ := hf k t h2
    -- the same source twice: the same part
    clear h1 h2 hf hk
    induction ps with
    | nil => cases hp
    | cons x ps ih =>
      simp only [srcs, List.filterMap_cons] at hs
      rcases List.mem_cons.1 hp with rfl | hp' <;> rcases List.mem_cons.1 hq with rfl | hq'
      · rfl
      · simp only [hpt, List.nodup_cons] at hs
        exact absurd (List.mem_filterMap.2 ⟨q, hq', hqt⟩) hs.1
      · simp only [hqt, List.nodup_cons] at hs
        exact absurd (List.mem_filterMap.2 ⟨p, hp', hpt⟩) hs.1
      · refine ih ?_ hp' hq'
        split at hs
        · exact hs
        · exact (List.nodup_cons.1 hs).2
  · obtain ⟨p, hp, _, hpt⟩ := hf k t h
    exact List.mem_filterMap.2 ⟨p, hp, hpt⟩

/-- A row or a struct is gathered out of its parts. -/
theorem gather {κ : Con} {Z : Nat → Option Obj} {β : List Nat → Option Nat} {e : Env} {val : Nat → Value} {w : World} (h : Rep κ Z β e val w) {ps : Parts} {vs : List (Nat × Value)} {d : Nat} {H' : Array Obj}
    (hp : PartsOK Z w.heap β e ps vs) (hs : (srcs ps).Nodup) (hk : (ps.map (·.1)).Nodup) (hH : ∀ b, b < w.heap.size → H'[b]? = w.heap[b]?) (β' : List Nat → Option Nat) (hβ : ∀ k r, β' (d :: k :: r) = viaF (gaF (srcOf ps) (srcs ps) d) β (d :: k :: r)) :
    ∀ (i : Nat) (h : i < ps.length) (h' : i < vs.length), ORep Z H' β' [d, (ps[i]).1] (ps[i]).2.1 (vs[i]).2 := by
  intro i hi hi'
  obtain ⟨h1, h2⟩ := hp.2 i hi hi'
  cases hsrc : (ps[i]).2.2 with
  | none => exact h2 hsrc _ _ _ _ (fun _ _ h => h)
  | some t =>
    obtain ⟨h3, h4, h5⟩ := h1 t hsrc
    refine h5.move (fun _ _ h => h) fun r b hb => ⟨?_, hH b (h.bo _ b hb).2.2⟩
    show β' (d :: (ps[i]).1 :: r) = some b
    rw [hβ]
    have := nodup_src hk i hi
    simp [viaF, gaF, this, hsrc]
    exact hb

/-- The world of BIG for parts: nothing that is known turns, but for blocks that are made. -/
theorem Rep.bigParts {κ : Con} {Z : Nat → Option Obj} {β : List Nat → Option Nat} {e : Env} {val : Nat → Value} {w w' : World} (h : Rep κ Z β e val w) (ts : List Nat) (d : Nat) (f : List Nat → Option (List Nat)) (A : AV) (u : Value) (β' : List Nat → Option Nat)
    (hos : w'.os = w.os) (htape : w'.tape = w.tape) (hout : w'.output = w.output) (hsize : w.heap.size ≤ w'.heap.size) (hH : ∀ b, b < w.heap.size → w'.heap[b]? = w.heap[b]?)
    (hf : ∀ r, r ≠ [] → root r ∉ d :: ts → f r = some r) (hβ : (β' = viaF f β) ∨ (β' = withB (viaF f β) d w.heap.size ∧ w.heap.size < w'.heap.size)) (hinj : ∀ r1 r2 x, f r1 = some x → f r2 = some x → r1 = r2)
    (hA : ORep Z w'.heap β' [d] A u) (hAv : ∀ s p, A ≠ .alias s p ∧ A ≠ .valias s p ∧ A ≠ .addr s p) : Rep κ Z β' (apps ((ts.map fun t => .set t .junk) ++ [.set d A]) e) (setV val d u) w' := by
  rw [apps_append, apps_drops]
  show Rep κ Z β' ((Wr.set d A).app (dropS ts e)) _ w'
  rw [← app_set_dropC]
  have hlt : ∀ p b, viaF f β p = some b → new κ b ∧ Z b = none ∧ b < w.heap.size := viaF_bo h.bo
  refine h.big (d :: ts) d (by simp) A u hos htape hout hsize (fun b _ hb => hH b hb) (fun _ _ h => h) (fun _ _ h => .inl h) (fun b o ho => (hH b (Array.getElem?_eq_some_iff.1 (h.zh b o ho)).1).trans (h.zh b o ho))
    (fun r b hr hn hb => ⟨?_, hH b (h.bo r b hb).2.2⟩) ?_ ?_ hA hAv
  · have h1 : viaF f β r = some b := by simp [viaF, hf r hr hn, hb]
    rcases hβ with rfl | ⟨rfl, _⟩
    · exact h1
    · unfold withB
      rw [if_neg (by rintro rfl; simp [root] at hn)]
      exact h1
  · rcases hβ with rfl | ⟨rfl, _⟩
    · exact viaF_inj hinj h.inj
    · exact withB_inj (viaF_inj hinj h.inj) fun p hp => by have := hlt p _ hp; omega
  · intro p b hp
    rcases hβ with rfl | ⟨rfl, hs⟩
    · have := hlt p b hp; exact ⟨this.1, this.2.1, by omega⟩
    · unfold withB at hp
      split at hp
      · injection hp with hp
        subst hp
        refine ⟨.inr h.size, ?_, hs⟩
        cases hz : Z w.heap.size with
        | none => rfl
        | some o => have := (Array.getElem?_eq_some_iff.1 (h.zh _ o hz)).1; omega
      · have := hlt p b hp; exact ⟨this.1, this.2.1, by omega⟩

theorem gaF_keep (src : Nat → Option Nat) (ts : List Nat) (d : Nat) : ∀ r, r ≠ [] → root r ∉ d :: ts → gaF src ts d r = some r := by
  intro r hr hn
  rcases r with _ | ⟨x, _ | ⟨k, r⟩⟩
  · exact absurd rfl hr
  · simp [root] at hn; simp [gaF, hn]
  · simp [root] at hn; simp [gaF, hn]

def partW (ps : Parts) : List Wr := (srcs ps).map fun t => .set t .junk

def rdBuildS (P : Program) (T d n : Nat) (xs : List (Nat × Operand)) : Rd := .need (slOK P T = true ∧ n ≤ 4096) (rdParts xs fun ps => .need ((srcs ps).Nodup ∧ (ps.map (·.1)).Nodup ∧ (∀ p ∈ ps, one p.2.1 = true ∧ p.1 < n) ∧ d ∉ srcs ps)
  (.ret (partW ps ++ [.set d (.own (foldP ps (List.replicate n (slZ P T))))])))

theorem partsOne {Z H β e ps vs} (hp : PartsOK Z H β e ps vs) (h1 : ∀ p ∈ ps, one p.2.1 = true) : ∀ v ∈ vs, v.2.oneCell' = true := by
  intro v hv
  obtain ⟨i, hi, rfl⟩ := List.getElem_of_mem hv
  have hl : ps.length = vs.length := by simpa using congrArg List.length hp.1
  obtain ⟨h2, h3⟩ := hp.2 i (by omega) hi
  have h4 := h1 _ (List.getElem_mem (show i < ps.length by omega))
  cases hsrc : (ps[i]'(by omega)).2.2 with
  | none => exact ORep.one (h3 hsrc Z H β [] (fun _ _ h => h)) h4
  | some t => exact ORep.one (h2 t hsrc).2.2 h4

theorem slZ_rep {P : Program} {T E : Nat} {i : TypeInfo} {z : Value} (hu : P.underlying T = some (.slice E)) (hi : P.info? E = some i) (hz : i.zero = some z) {Z H β p} : ORep Z H β p (slZ P T) z := by
  have : slZ P T = cst z := by simp [slZ, slE, hu, zOf, hi, hz]
  rw [this]
  by_cases h : cst z = .junk
  · rw [h]; exact .pers (.junk _)
  · exact cst_rep p z h

theorem size1_cells {z : Value} (h : z.cells.size = 1) : ∃ c, z.cells = #[c] := by
  obtain ⟨l, hl⟩ : ∃ l, z.cells = Array.mk l := ⟨_, rfl⟩
  rw [hl] at h ⊢
  simp at h
  obtain ⟨c, rfl⟩ := List.length_eq_one_iff.1 h
  exact ⟨c, rfl⟩

end Go.Proofs.Ytechllcflknnlaa
