/- Operations one by one: slices, structs, append. No program in sight. -/
import Derived.Test.YtechllcflknnlaaEng8
namespace Go.Proofs.Ytechllcflknnlaa
set_option linter.unusedSimpArgs false
set_option linter.unusedVariables false
set_option maxRecDepth 8000
open Go Go.RowKit AV

theorem foldl_one {vs : List (Nat × Value)} : ∀ {cs : Array Value}, (∀ v ∈ vs, v.2.oneCell' = true) → (∀ k, k < cs.size → (cs.getD k undef).oneCell' = true) →
    ∀ k, k < cs.size → ((vs.foldl (fun (cs : Array Value) p => cs.setIfInBounds p.1 p.2) cs).getD k undef).oneCell' = true := by
  induction vs with
  | nil => intro cs _ h k hk; exact h k hk
  | cons v vs ih =>
    intro cs h1 h2 k hk
    refine ih (fun v hv => h1 v (by simp [hv])) (fun j hj => ?_) k (by simpa using hk)
    have hj' : j < cs.size := by simpa using hj
    by_cases hv : v.1 = j
    · subst hv
      simpa [Array.getD_eq_getD_getElem?, Array.getElem?_setIfInBounds, hj'] using h1 v (by simp)
    · simpa [Array.getD_eq_getD_getElem?, Array.getElem?_setIfInBounds_ne hv] using h2 j hj'

theorem foldl_size {vs : List (Nat × Value)} : ∀ {cs : Array Value}, (vs.foldl (fun (cs : Array Value) p => cs.setIfInBounds p.1 p.2) cs).size = cs.size := by
  induction vs with
  | nil => intro cs; rfl
  | cons v vs ih => intro cs; simp only [List.foldl_cons]; rw [ih]; simp

theorem foldP_length (ps : Parts) : ∀ l : List AV, (foldP ps l).length = l.length := by
  induction ps with
  | nil => intro l; rfl
  | cons p ps ih => intro l; show (foldP ps (l.set p.1 p.2.1)).length = _; rw [ih]; simp

theorem rdBuildS_sound {P : Program} {κ : Con} {o : Oper} {e : Env} {ws : List Wr} {T d n : Nat} {xs : Array (Nat × Operand)} (ho : o.op = .buildSlice T n xs) (hd : o.dst = some d) (hn : (κ.lim.1 ≤ d ∧ d < κ.lim.2)) (h : (rdBuildS P T d n xs.toList).Wo e ws) : Does P κ o e ws := by
  obtain ⟨⟨hT, hn4⟩, h⟩ := h
  obtain ⟨ps, ⟨⟨hs, hk, hone, hds⟩, hw⟩, hpl, hps⟩ := rdParts_sound _ _ h
  have hw' : ws = _ := hw
  subst hw'
  obtain ⟨E, i, z, hu, hi, hi1, hi2, hz, hz1⟩ := slOK_spec hT
  refine does_value hd hn fun a w Z β hR => ?_
  have hpo := hps hR
  generalize hvs : (xs.toList.map fun p => (p.1, a.eval p.2)) = vs at hpo
  have hv1 := partsOne hpo fun p hp => (hone p hp).1
  have hvn : ∀ v ∈ vs, v.1 < n := by
    intro v hv
    have : v.1 ∈ List.map (·.1) vs := List.mem_map.2 ⟨v, hv, rfl⟩
    rw [← hpo.1] at this
    obtain ⟨p, hp, hpe⟩ := List.mem_map.1 this
    rw [← hpe]; exact (hone p hp).2
  let cs0 : Array Value := Array.replicate n z
  let cs1 := vs.foldl (fun (cs : Array Value) p => cs.setIfInBounds p.1 p.2) cs0
  have hfill : Instr.fill (fun i => some (i * 1, 1)) cs0 vs = some cs1 := by
    have := fill_one (place := fun i => some (i * 1, 1)) (off := fun i => i) vs cs0 (fun p hp => ⟨by simp, cells_one (hv1 p hp), by simpa [cs0] using hvn p hp⟩)
    rw [this]
    simp [cs1]
  have hzc := cells_one hz1
  have hrun : (execOp a.eval o).run P w = .ok (.value (.slice (some ⟨w.heap.size, 0, none⟩) n n)) (w.alloc (.cells cs1 E)) := by
    have hcells : ((Array.range n).map fun j => (#[z] : Array Value)[j % (#[z] : Array Value).size]!) = cs0 := by
      apply Array.ext
      · simp [cs0]
      · intro j h1 h2; simp [cs0, Nat.mod_one]
    have h24 : ¬ (16777216 < n) := by omega
    simp only [execOp, ho]
    by_cases hn0 : n = 0
    · subst hn0
      have hc1 : cs1 = #[] := Array.eq_empty_of_size_eq_zero (by show (vs.foldl _ cs0).size = 0; rw [foldl_size]; simp [cs0])
      have hv0 : vs = [] := by
        cases vs with
        | nil => rfl
        | cons v vs => have := hvn v (by simp); omega
      rw [hv0] at hvs
      simp [Instr.buildSlice, run_underlying hu, sizeOf, typeInfo, hi, hi1, hvs, Instr.fill, newRow, hc1, Array.range_zero']
    · simp [Instr.buildSlice, run_underlying hu, sizeOf, typeInfo, zeroValue, hi, hi1, hz, hn0, h24, hvs, newRow]
      have e2 : (Array.map (fun x => z.cells[x % z.cells.size]!) (Array.range n)) = cs0 := by rw [hzc]; exact hcells
      have e3 := hfill
      simp only [Nat.mul_one] at e3
      rw [e2, e3]
      simp
  have hβ0 : ∀ k r, withB (viaF (gaF (srcOf ps) (srcs ps) d) β) d w.heap.size (d :: k :: r) = viaF (gaF (srcOf ps) (srcs ps) d) β (d :: k :: r) := by
    intro k r; simp [withB]
  have hg := gather hR hpo hs hk (H' := (w.alloc (.cells cs1 E)).heap) (fun b hb => Below.heap_alloc w _ b hb) _ hβ0
  have hrel := foldP_rep (Rel := fun k A v => ORep Z (w.alloc (.cells cs1 E)).heap (withB (viaF (gaF (srcOf ps) (srcs ps) d) β) d w.heap.size) [d, k] A v) ps vs (List.replicate n (slZ P T)) cs0 (by simp [cs0]) hpo.1 hg (fun k hk => by
    have hk' : k < n := by simpa using hk
    have : cs0.getD k undef = z := by simp [cs0, Array.getD_eq_getD_getElem?, hk']
    rw [this, List.getElem_replicate]
    exact slZ_rep hu hi hz)
  have hlen : (foldP ps (List.replicate n (slZ P T))).length = n := by rw [foldP_length]; simp
  have hsz : cs1.size = n := by show (vs.foldl _ cs0).size = n; rw [foldl_size]; simp [cs0]
  have hori := ORep.own (Z := Z) (H := (w.alloc (.cells cs1 E)).heap) (β := withB (viaF (gaF (srcOf ps) (srcs ps) d) β) d w.heap.size) (p := [d]) (foldP ps (List.replicate n (slZ P T))) w.heap.size n cs1 E (fun k => cs1.getD k undef) (by simp [withB]) (heap_alloc_new w _) (by omega) (by omega) (by unfold maxLen; omega) (fun k hk => by
      rw [hlen] at hk; simp [Array.getD_eq_getD_getElem?, hsz, hk]) (fun k hk => by
      refine foldl_one hv1 (fun j hj => ?_) k (by rw [hlen] at hk; simpa [cs0] using hk)
      have hj' : j < n := by simpa [cs0] using hj
      simpa [cs0, Array.getD_eq_getD_getElem?, hj'] using hz1) (fun k hk => hrel.2 k hk)
  rw [hlen] at hori
  exact ⟨_, _, Z, _, hrun, hR.bigParts (srcs ps) d (gaF (srcOf ps) (srcs ps) d) _ _ _ rfl rfl rfl (by simp) (fun b hb => Below.heap_alloc w _ b hb) (gaF_keep _ _ _) (.inr ⟨rfl, by simp⟩) (gaF_inj (srcs_inj hs hk).1 (srcs_inj hs hk).2) hori (by simp)⟩

/-! ### make, slices -/

def rdMakeS (P : Program) (T d : Nat) (x y : Operand) : Rd := .need (slOK P T = true) (rdX x fun A => rdX y fun B => match A, B with
  | .num .i64 m, .num .i64 n => .need (m = n ∧ 0 ≤ m ∧ m ≤ 1099511627776) (.ret [.set d (.own (List.replicate m.toNat (slZ P T)))])
  | _, _ => .fail)

theorem rdMakeS_sound {P : Program} {κ : Con} {o : Oper} {e : Env} {ws : List Wr} {T d : Nat} {x y : Operand} (ho : o.op = .makeSlice T x y) (hd : o.dst = some d) (hn : (κ.lim.1 ≤ d ∧ d < κ.lim.2)) (h : (rdMakeS P T d x y).Wo e ws) : Does P κ o e ws := by
  obtain ⟨hT, h⟩ := h
  obtain ⟨A, h0, -, hA⟩ := rdX_sound h; replace h := h0; clear h0
  obtain ⟨B, h0, -, hB⟩ := rdX_sound h; replace h := h0; clear h0
  split at h
  · rename_i m n
    obtain ⟨⟨rfl, hm0, hm1⟩, hw⟩ := h
    have hw' : ws = _ := hw
    subst hw'
    obtain ⟨E, i, z, hu, hi, hi1, hi2, hz, hz1⟩ := slOK_spec hT
    refine does_value hd hn fun a w Z β hR => ?_
    have hx := hA hR rfl
    have hy := hB hR rfl
    obtain ⟨k, rfl⟩ : ∃ k : Nat, m = k := ⟨m.toNat, by omega⟩
    have hmk := run_make_row (P := P) T E i z hu hi hz hi1 (cells_one hz1) .i64 .i64 k (by
      have := Nat.mul_le_mul hi2 (show k ≤ 1099511627776 by omega); omega) (by omega) w
    have hrun : (execOp a.eval o).run P w = .ok (.value (.slice (some ⟨w.heap.size, 0, none⟩) k k)) (w.alloc (.cells (madeCells #[z] k) E)) := by
      simp only [execOp, ho]
      generalize a.eval x = vx at hx
      generalize a.eval y = vy at hy
      cases hx; cases hy
      rw [Sem.run_bind, hmk]; rfl
    have hcell : ∀ j, j < k → (madeCells #[z] k)[j]? = some z := fun j hj => by simp [madeCells, hj, Nat.mod_one]
    have hori := ORep.own (Z := Z) (H := (w.alloc (.cells (madeCells #[z] k) E)).heap) (β := withB (viaF (gaF (srcOf []) (srcs []) d) β) d w.heap.size) (p := [d]) (List.replicate k (slZ P T)) w.heap.size k _ E (fun _ => z) (by simp [withB]) (heap_alloc_new w _) (by simp) (by simp [size_madeCells]) (by unfold maxLen; omega) (fun j hj => hcell j (by simpa using hj)) (fun _ _ => hz1) (fun j hj => by
      rw [List.getElem_replicate]; exact slZ_rep hu hi hz)
    rw [List.length_replicate] at hori
    have := hR.bigParts (srcs []) d (gaF (srcOf []) (srcs []) d) (.own (List.replicate k (slZ P T))) (.slice (some ⟨w.heap.size, 0, none⟩) k k) (withB (viaF (gaF (srcOf []) (srcs []) d) β) d w.heap.size) (w' := w.alloc (.cells (madeCells #[z] k) E)) rfl rfl rfl (by simp) (fun b hb => Below.heap_alloc w _ b hb) (gaF_keep _ _ _) (.inr ⟨rfl, by simp⟩) (gaF_inj (by simp [srcOf]) (by simp [srcOf])) hori (by simp)
    exact ⟨_, _, Z, _, hrun, by simpa [srcs] using this⟩
  · exact h.elim

/-- The bounds of a slice expression. -/
def rdBd (x : Option Operand) (dflt : Int) (k : Int → Rd) : Rd := match x with
  | none => k dflt
  | some x => rdX x fun A => match A with
    | .num _ n => k n
    | _ => .fail

def rdSlice (P : Program) (T d : Nat) (x : Operand) (lo hi : Option Operand) : Rd := .need (slOK P T = true) (rdX x fun A => match A with
  | .sh l => rdBd lo 0 fun m => rdBd hi l.length fun n => .need (0 ≤ m ∧ m ≤ n ∧ n ≤ l.length) (.ret [.set d (.sh ((l.take n.toNat).drop m.toNat))])
  | _ => .fail)

theorem rdBd_sound {e : Env} {x : Option Operand} {dflt : Int} {k : Int → Rd} {ws : List Wr} (h : (rdBd x dflt k).Wo e ws) : ∃ n, (k n).Wo e ws ∧ (x = none → n = dflt) ∧ ∀ {κ Z β w} {a : Act}, Rep κ Z β e (vals a) w → ∀ y, x = some y → ∃ kk, a.eval y = .int kk n := by
  cases x with
  | none => exact ⟨_, h, fun _ => rfl, fun _ y hy => by cases hy⟩
  | some x =>
    obtain ⟨A, h0, -, hA⟩ := rdX_sound h; replace h := h0; clear h0
    split at h
    · rename_i kk n
      refine ⟨n, h, by simp, fun {κ Z β w a} hR y hy => ?_⟩
      injection hy with hy; subst hy
      have := hA hR rfl
      generalize a.eval x = v at this
      cases this
      exact ⟨kk, rfl⟩
    · exact h.elim

theorem run_bound {P : Program} {w : World} {kk : IntKind} {n : Int} {y : Nat} {code} (h0 : 0 ≤ n) (h1 : n ≤ y) : (Instr.sliceBound (.int kk n) y code).run P w = .ok n.toNat w := by
  simp [Instr.sliceBound, asIntOf, h0, h1]

theorem rdSlice_sound {P : Program} {κ : Con} {o : Oper} {e : Env} {ws : List Wr} {T d : Nat} {x : Operand} {lo hi : Option Operand} (ho : o.op = .slice T x lo hi none) (hd : o.dst = some d) (hn : (κ.lim.1 ≤ d ∧ d < κ.lim.2)) (h : (rdSlice P T d x lo hi).Wo e ws) : Does P κ o e ws := by
  obtain ⟨hT, h⟩ := h
  obtain ⟨A, h0, -, hA⟩ := rdX_sound h; replace h := h0; clear h0
  cases A with
  | sh l =>
    obtain ⟨m, h, hm1, hm2⟩ := rdBd_sound h
    obtain ⟨n, h, hn1, hn2⟩ := rdBd_sound h
    obtain ⟨⟨hc1, hc2, hc3⟩, hw⟩ := h
    have hw' : ws = _ := hw
    subst hw'
    obtain ⟨E, i, z, hu, hi', hi1, _, _, _⟩ := slOK_spec hT
    refine does_value hd hn fun a w Z β hR => ?_
    have hx := hA hR rfl
    generalize hxe : a.eval x = vx at hx
    obtain ⟨A, c, hv⟩ := PRep.len hx
    have hlc : l.length ≤ c ∧ c ≤ maxLen := by
      cases hx with
      | nil A c hc => injection hv with _ _ h3; subst h3; exact ⟨Nat.zero_le _, hc⟩
      | sh l b o c cs E fz us hz h1 h2 => injection hv with _ _ h3; subst h3; exact ⟨h1, h2⟩
    have hrun : (execOp a.eval o).run P w = .ok (.value (.slice (if c = m.toNat then A else A.map (·.add m.toNat)) (n.toNat - m.toNat) (c - m.toNat))) w := by
      have hbounds : (Instr.sliceBounds true l.length c (lo.map a.eval) (hi.map a.eval) none).run P w = .ok (m.toNat, n.toNat, c) w := by
        have c1 : (hi.map a.eval = none ∧ n = l.length) ∨ ∃ kk, hi.map a.eval = some (.int kk n) := by
          cases hi with
          | none => exact .inl ⟨rfl, hn1 rfl⟩
          | some y => obtain ⟨kk, hy⟩ := hn2 hR y rfl; exact .inr ⟨kk, by simp [hy]⟩
        have c2 : (lo.map a.eval = none ∧ m = 0) ∨ ∃ kk, lo.map a.eval = some (.int kk m) := by
          cases lo with
          | none => exact .inl ⟨rfl, hm1 rfl⟩
          | some y => obtain ⟨kk, hy⟩ := hm2 hR y rfl; exact .inr ⟨kk, by simp [hy]⟩
        have b1 := fun kk => run_bound (P := P) (w := w) (kk := kk) (n := n) (y := c) (code := .sliceAcap) (by omega) (by omega)
        have b2 := fun kk => run_bound (P := P) (w := w) (kk := kk) (n := m) (y := n.toNat) (code := .sliceB) (by omega) (by omega)
        rcases c1 with ⟨g1, rfl⟩ | ⟨k1, g1⟩ <;> rcases c2 with ⟨g2, rfl⟩ | ⟨k2, g2⟩
        · simp [Instr.sliceBounds, g1, g2]
        · simp only [Int.toNat_natCast] at b2; simp [Instr.sliceBounds, g1, g2, b2]
        · simp [Instr.sliceBounds, g1, g2, b1]
        · simp [Instr.sliceBounds, g1, g2, b1, b2]
      have hsl : (Instr.sliceAt T (a.eval x) (lo.map a.eval) (hi.map a.eval) none).run P w = .ok (.slice (if c = m.toNat then A else A.map (·.add m.toNat)) (n.toNat - m.toNat) (c - m.toNat)) w := by
        rw [hxe, hv]
        simp [Instr.sliceAt, Instr.slice, run_underlying hu, hbounds, sizeOf, typeInfo, hi', hi1]
      simp only [execOp, ho, Option.map_none]
      rw [Sem.run_bind, hsl]; rfl
    refine ⟨_, w, Z, β, hrun, hR.put d (A := .sh ((l.take n.toNat).drop m.toNat)) ?_ (by simp)⟩
    have hlen : ((l.take n.toNat).drop m.toNat).length = n.toNat - m.toNat := by simp; omega
    cases hx with
    | nil A' c' hc =>
      injection hv with h1 h2 h3
      subst h3
      have : m.toNat = 0 ∧ n.toNat = 0 := by simp at hc3; omega
      simp only [this.1, this.2, List.take_nil, List.drop_nil, Nat.sub_zero]
      exact .nil _ _ hc
    | sh l b of c cs E' fz us hz h1 h2 hu' h3 hk =>
      injection hv with g1 g2 g3
      subst g3
      subst g1
      have hadd : (⟨b, of, none⟩ : Addr).add m.toNat = ⟨b, of + m.toNat, none⟩ := by unfold Addr.add; split <;> simp_all
      by_cases hcm : c = m.toNat
      · have hm0 : n.toNat - m.toNat = 0 := by omega
        have hnil : (l.take n.toNat).drop m.toNat = [] := List.eq_nil_of_length_eq_zero (by omega)
        rw [hnil, hm0]
        exact .nil _ _ (by omega)
      · rw [if_neg hcm]
        simp only [Option.map_some, hadd]
        have := PRep.sh (Z := Z) ((l.take n.toNat).drop m.toNat) b (of + m.toNat) (c - m.toNat) cs E' fz (fun k => us (m.toNat + k)) hz (by omega) (by omega) (fun k hk => by
          rw [Nat.add_assoc]; exact hu' _ (by omega)) (fun k hk => h3 _ (by omega)) (fun k hk' => by
          simp only [List.getElem_drop, List.getElem_take]
          exact hk _ (by omega))
        rw [hlen] at this
        exact this
  | _ => exact h.elim

/-! ### Structs -/

def rdExtract (d : Nat) (x : Operand) (i : Nat) : Rd := match x with
  | .tmp t => .need (t ≠ d) (.get t fun v => match v with
    | .tup l => rdIdx l i fun A => (if isP A then .ret [.set d A] else if isOwn A then .ret [.set d .junk, .mod t [i] .junk, .set d A] else .fail)
    | _ => .fail)
  | _ => .fail

theorem rdExtract_sound {P : Program} {κ : Con} {o : Oper} {e : Env} {ws : List Wr} {d i : Nat} {x : Operand} (ho : o.op = .extract x i) (hd : o.dst = some d) (hn : (κ.lim.1 ≤ d ∧ d < κ.lim.2)) (h : (rdExtract d x i).Wo e ws) : Does P κ o e ws := by
  cases x with
  | tmp t =>
    obtain ⟨htd, hj, h⟩ := h
    refine does_value hd hn fun a w Z β hR => ?_
    cases het : e t with
    | tup l =>
      simp only [het] at h
      obtain ⟨A, hA, h⟩ := h
      obtain ⟨hlt, rfl⟩ := List.getElem?_eq_some_iff.1 hA
      have hs0 := hR.slot' het (by simp)
      generalize hvv : vals a t = vv at hs0
      have key : ∃ cs, vv = .tuple cs ∧ cs.size = l.length ∧ ORep Z w.heap β [t, i] l[i] (cs.getD i undef) := by
        cases hs0 with
        | pers h => cases h with | tup l cs h1 hk => exact ⟨cs, rfl, h1, .pers (hk i hlt)⟩
        | tup l cs h1 hk => exact ⟨cs, rfl, h1, hk i hlt⟩
      obtain ⟨cs, rfl, hcs, hu⟩ := key
      have hg : cs[i]? = some (cs.getD i undef) := by have : i < cs.size := by omega
                                                      simp [this]
      generalize cs.getD i undef = u at hu hg
      have hrun : (execOp a.eval o).run P w = .ok (.value u) w := by
        simp only [execOp, ho, eval_tmp, hvv]
        simp [Instr.extract, hg]
      dsimp only at h
      split at h
      · rename_i hp
        have h' : ws = _ := h
        subst h'
        exact ⟨_, w, Z, β, hrun, hR.put d (hu.toP hp) (isP_plain hp)⟩
      · split at h
        · rename_i ho
          have h' : ws = _ := h
          subst h'
          obtain ⟨β', hR'⟩ := hR.giveP (u := u) (p := [i]) htd (by rw [het]; simp [getP, kids, hlt]) (by rw [het]; simp) (own_plain ho) (by rw [het]; simp) hu
          exact ⟨_, w, Z, β', hrun, hR'⟩
        · exact h.elim
    | _ => simp only [het] at h; exact h.elim
  | _ => exact h.elim

def rdFieldV (P : Program) (T d : Nat) (x : Operand) (f : Nat) : Rd := match stO P T f with
  | some off => (match x with
    | .tmp t => .get t fun v => match v with
      | .agg l => rdIdx l off fun A => .need (isP A = true) (.ret [.set d A])
      | .valias s p => .get s fun c => rdGetP c p fun X => match X with
        | .box l => rdIdx l off fun A => .need (isP A = true) (.ret [.set d A])
        | _ => .fail
      | _ => .fail
    | _ => .fail)
  | none => .fail

theorem rdFieldV_sound {P : Program} {κ : Con} {o : Oper} {e : Env} {ws : List Wr} {T d f : Nat} {x : Operand} (ho : o.op = .field T x f) (hd : o.dst = some d) (hn : (κ.lim.1 ≤ d ∧ d < κ.lim.2)) (h : (rdFieldV P T d x f).Wo e ws) : Does P κ o e ws := by
  unfold rdFieldV at h
  split at h
  case h_2 => exact h.elim
  rename_i off hoff
  cases x with
  | tmp t =>
    obtain ⟨hj, h⟩ := h
    obtain ⟨fs, fl, hu, hf, hfo, hs, ha⟩ := stO_spec hoff
    have hrun : ∀ (a : Act) (w : World) (cs : Array Value) (u : Value), vals a t = .agg cs → cs[off]? = some u → (execOp a.eval o).run P w = .ok (.value u) w := by
      intro a w cs u hv hc
      simp only [execOp, ho, eval_tmp, hv]
      simp [Instr.field, run_underlying hu, hf, asAgg, part, run_isAgg_false ha, hfo, hc]
    refine does_value hd hn fun a w Z β hR => ?_
    have fin : ∀ (l : List AV) (A : AV) (p : List Nat) (v : Value), vals a t = v → ORep Z w.heap β p (.agg l) v → l[off]? = some A → isP A = true → ws = [.set d A] → ∃ u w' Z' β', (execOp a.eval o).run P w = .ok (.value u) w' ∧ Rep κ Z' β' (apps ws e) (setV (vals a) d u) w' := by
      intro l A p v hv hl hA hp hws
      subst hws
      obtain ⟨hlt, rfl⟩ := List.getElem?_eq_some_iff.1 hA
      have key : ∃ cs, v = .agg cs ∧ cs.size = l.length ∧ ORep Z w.heap β (p ++ [off]) l[off] (cs.getD off undef) := by
        cases hl with
        | pers h => cases h with | agg l cs h1 hk => exact ⟨cs, rfl, h1, .pers (hk off hlt)⟩
        | agg l cs h1 hk => exact ⟨cs, rfl, h1, hk off hlt⟩
      obtain ⟨cs, rfl, hcs, hu⟩ := key
      have hg : cs[off]? = some (cs.getD off undef) := by have : off < cs.size := by omega
                                                          simp [this]
      exact ⟨_, w, Z, β, hrun a w cs _ hv hg, hR.put d (hu.toP hp) (isP_plain hp)⟩
    cases het : e t with
    | agg l =>
      simp only [het] at h
      obtain ⟨A, hA, hp, h⟩ := h
      exact fin l A [t] _ rfl (hR.slot' het (by simp)) hA hp h
    | valias s p =>
      simp only [het] at h
      obtain ⟨_, X, hl, h⟩ := h
      dsimp only at h
      split at h
      case h_2 => exact h.elim
      rename_i l
      obtain ⟨A, hA, hp, h⟩ := h
      obtain ⟨cs, hv, hr, _⟩ := hR.valiasAt het l hl
      exact fin l A _ _ hv hr hA hp h
    | _ => simp only [het] at h; exact h.elim
  | _ => exact h.elim

end Go.Proofs.Ytechllcflknnlaa
