/- From the engine's contract of a law to what its row asks. No program in sight. -/
import Derived.Test.YtechllcflknnlaaEngF
namespace Go.Proofs.Ytechllcflknnlaa
set_option linter.unusedSimpArgs false
set_option linter.unusedVariables false
set_option maxRecDepth 8000
open Go Go.RowKit AV

/-- All memory, settled. -/
def heapZ (w : World) : Nat → Option Obj := fun b => w.heap[b]?

theorem cells_of_cell {w : World} {b i : Nat} {u : Value} (h : w.cell? ⟨b, i, none⟩ = some u) : ∃ cs T fz, w.heap[b]? = some (.cells cs T fz) ∧ cs[i]? = some u := by
  unfold World.cell? at h
  split at h
  · rename_i c T fz hc
    exact ⟨c, T, fz, hc, by simpa using h⟩
  · cases h

theorem IS.prep {B : Nat} {w : World} {v : Value} {l : List Int} (h : IS B w v l) : PRep (heapZ w) (ints l) v := by
  obtain ⟨A, c, rfl, h1, h2, h3⟩ := h
  cases hl : l with
  | nil => exact .nil A c h2
  | cons a t =>
    rw [← hl]
    have hpos : 0 < l.length := by rw [hl]; simp
    obtain ⟨b, o, rfl, hlt, hc⟩ := h3 hpos
    obtain ⟨cs, T, fz, hz, _⟩ := cells_of_cell (hc 0 hpos)
    have := PRep.sh (Z := heapZ w) (l.map I) b o c cs T fz (fun k => .int .i64 (nth l k)) hz (by simpa using h1) h2 (fun k hk => by
      obtain ⟨cs', T', fz', hz', hk'⟩ := cells_of_cell (hc k (by simpa using hk))
      rw [hz] at hz'
      injection hz' with hz'
      injection hz' with e1 e2 e3
      rw [e1]; exact hk') (fun k hk => rfl) (fun k hk => by
      have hk' : k < l.length := by simpa using hk
      have : nth l k = l[k] := by simp [nth, List.getD, hk']
      simp only [List.getElem_map, this]
      exact .num _ _)
    simpa using this

theorem ISS.prep {B : Nat} {w : World} {v : Value} {l : List (List Int)} (h : ISS B w v l) : PRep (heapZ w) (rows l) v := by
  obtain ⟨A, c, rfl, h1, h2, h3⟩ := h
  cases hl : l with
  | nil => exact .nil A c h2
  | cons a t =>
    rw [← hl]
    have hpos : 0 < l.length := by rw [hl]; simp
    obtain ⟨b, o, rfl, hlt, hc⟩ := h3 hpos
    obtain ⟨u0, hu0, _⟩ := hc 0 hpos
    obtain ⟨cs, T, fz, hz, _⟩ := cells_of_cell hu0
    have hget : ∀ k, k < l.length → cs[o + k]? = some (cs.getD (o + k) undef) ∧ IS B w (cs.getD (o + k) undef) (nthL l k) := by
      intro k hk
      obtain ⟨u, hu, his⟩ := hc k hk
      obtain ⟨cs', T', fz', hz', hk'⟩ := cells_of_cell hu
      rw [hz] at hz'
      injection hz' with hz'
      injection hz' with e1 e2 e3
      subst e1
      have : cs.getD (o + k) undef = u := by rw [Array.getD_eq_getD_getElem?, hk']; rfl
      rw [this]
      exact ⟨hk', his⟩
    have := PRep.sh (Z := heapZ w) (l.map ints) b o c cs T fz (fun k => cs.getD (o + k) undef) hz (by simpa using h1) h2 (fun k hk => (hget k (by simpa using hk)).1) (fun k hk => by
      obtain ⟨A', c', hv, _⟩ := (hget k (by simpa using hk)).2
      rw [hv]; rfl) (fun k hk => by
      have hk' : k < l.length := by simpa using hk
      have e : nthL l k = l[k] := by simp [nthL, List.getD, hk']
      have := (hget k hk').2.prep
      rw [e] at this
      simpa using this)
    simpa using this

theorem IS.len {B : Nat} {w : World} {v : Value} {l : List Int} (h : IS B w v l) : l.length ≤ maxLen := by
  obtain ⟨A, c, _, h1, h2, _⟩ := h; omega
theorem ISS.len {B : Nat} {w : World} {v : Value} {l : List (List Int)} (h : ISS B w v l) : l.length ≤ maxLen := by
  obtain ⟨A, c, _, h1, h2, _⟩ := h; omega
theorem ISS.rowLen {B : Nat} {w : World} {v : Value} {l : List (List Int)} (h : ISS B w v l) : ∀ x ∈ l, x.length ≤ maxLen := by
  obtain ⟨A, c, _, h1, h2, h3⟩ := h
  intro x hx
  obtain ⟨k, hk, rfl⟩ := List.getElem_of_mem hx
  obtain ⟨b, o, _, _, hc⟩ := h3 (by omega)
  obtain ⟨u, _, his⟩ := hc k hk
  have e : nthL l k = l[k] := by simp [nthL, List.getD, hk]
  rw [← e]; exact his.len

theorem auto_prep {Z : Nat → Option Obj} {v0 v1 : Value} {E : List Int} {N : List (List Int)} (h0 : PRep Z (ints E) v0) (h1 : PRep Z (rows N) v1) : PRep Z (.agg [ints E, rows N]) (.agg #[v0, v1]) := by
  refine .agg _ _ rfl fun k hk => ?_
  have hk' : k = 0 ∨ k = 1 := by simp at hk; omega
  rcases hk' with rfl | rfl
  · exact h0
  · exact h1

/-- A law that returns true, by the engine. -/
theorem law_of_ctr {P : Program} {f : Nat} {rel : List AV → AV → Prop} (h : CtrOK P f (pureC rel)) {args : List AV} (hr : rel args (.bool true)) {vs : Array Value} {w : World} (hn : vs.size = args.length)
    (ha : ∀ i (h : i < args.length), PRep (heapZ w) args[i] (vs.getD i undef)) : Calls P f vs w fun e w' => e = .returned (.bool true) ∧ Below w.heap.size w w' := by
  refine (h.2 args (.bool true) [] ⟨rfl, hr⟩ w (heapZ w) (fun _ => none) vs hn ⟨fun b o h => h, by simp, by simp⟩ (by
    simp only [pureC_eff, Bool.false_eq_true, if_false]
    exact ⟨trivial, ha⟩)).mono ?_
  rintro en w' ⟨v, Z', β', rfl, hL, hv, _⟩
  cases hv with
  | pers h =>
    cases h
    exact ⟨rfl, hL.os, hL.tape, hL.output, hL.size, fun b hb => hL.frame b hb (by simp)⟩

end Go.Proofs.Ytechllcflknnlaa
