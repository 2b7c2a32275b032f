/- Elder contracts, of functions that leave the world alone, as the engine's. No program in sight. -/
import Derived.Test.YtcpfflnhbcbmnaaGrpJ
namespace Go.Proofs.Ytcpfflnhbcbmnaa
set_option linter.unusedSimpArgs false
set_option linter.unusedVariables false
set_option maxRecDepth 8000
set_option maxHeartbeats 2000000
open Go Go.RowKit AV

theorem lt_of_heap {w : World} {b : Nat} {o : Obj} (h : w.heap[b]? = some o) : b < w.heap.size := (Array.getElem?_eq_some_iff.1 h).1

theorem prep_is {Z : Nat → Option Obj} {w : World} (hz : ∀ b o, Z b = some o → w.heap[b]? = some o) {l : List Int} {v : Value} (h : PRep Z (ints l) v) : IS w.heap.size w v l := by
  generalize hA : ints l = A at h
  cases h with
  | nil A c hc =>
    injection hA with hA
    have hx : l = [] := by simpa using hA
    subst hx
    exact ⟨A, c, rfl, by simp, hc, fun h => absurd h (by simp)⟩
  | sh l' b o c cs T fz us hb h1 h2 hu h3 hk =>
    injection hA with hA
    subst hA
    refine ⟨some ⟨b, o, none⟩, c, by simp, by simpa using h1, h2, fun _ => ⟨b, o, rfl, lt_of_heap (hz _ _ hb), fun k hk' => ?_⟩⟩
    have hk2 : k < (l.map I).length := by simpa using hk'
    have h5 := hk k hk2
    simp only [List.getElem_map] at h5
    have h7 : us k = .int .i64 (nth l k) := by
      have h8 : nth l k = l[k] := by simp [nth, List.getD, hk']
      rw [h8]
      generalize us k = u at h5
      cases h5; rfl
    rw [← h7]
    exact cell_heap (hz _ _ hb) (hu k hk2)
  | _ => cases hA

theorem prep_iss {Z : Nat → Option Obj} {w : World} (hz : ∀ b o, Z b = some o → w.heap[b]? = some o) {l : List (List Int)} {v : Value} (h : PRep Z (rows l) v) : ISS w.heap.size w v l := by
  generalize hA : rows l = A at h
  cases h with
  | nil A c hc =>
    injection hA with hA
    have hx : l = [] := by simpa using hA
    subst hx
    exact ⟨A, c, rfl, by simp, hc, fun h => absurd h (by simp)⟩
  | sh l' b o c cs T fz us hb h1 h2 hu h3 hk =>
    injection hA with hA
    subst hA
    refine ⟨some ⟨b, o, none⟩, c, by simp, by simpa using h1, h2, fun _ => ⟨b, o, rfl, lt_of_heap (hz _ _ hb), fun k hk' => ?_⟩⟩
    have hk2 : k < (l.map ints).length := by simpa using hk'
    have h5 := hk k hk2
    simp only [List.getElem_map] at h5
    refine ⟨us k, cell_heap (hz _ _ hb) (hu k hk2), ?_⟩
    have h6 : nthL l k = l[k] := by simp [nthL, List.getD, hk']
    rw [h6]
    exact prep_is hz h5
  | _ => cases hA

theorem prep_auto {Z : Nat → Option Obj} {w : World} (hz : ∀ b o, Z b = some o → w.heap[b]? = some o) {E : List Int} {N : List (List Int)} {v : Value} (h : PRep Z (agg [ints E, rows N]) v) : ∃ v0 v1, v = .agg #[v0, v1] ∧ IS w.heap.size w v0 E ∧ ISS w.heap.size w v1 N := by
  cases h with
  | agg l cs h1 hk =>
    have hs : cs.size = 2 := by simpa using h1
    have h0 := hk 0 (by simp)
    have h2 := hk 1 (by simp)
    simp only [List.getElem_cons_zero, List.getElem_cons_succ] at h0 h2
    refine ⟨cs.getD 0 undef, cs.getD 1 undef, ?_, prep_is hz h0, prep_iss hz h2⟩
    congr 1
    apply Array.ext (by simpa using hs)
    intro i hi hi'
    rcases (by omega : i = 0 ∨ i = 1) with rfl | rfl <;> simp [Array.getD, hs]

/-- A function that leaves the memory that was there alone. -/
theorem ctr_below {P : Program} {f : Nat} {fn : Func} {c : Code} (hf : P.funcs[f]? = some fn) (hname : (fn.name == "runtime.NumGoroutine") = false) (hb : fn.body = some c) {rel : List AV → AV → Prop}
    (h : ∀ args r, rel args r → ∀ (w : World) (Z : Nat → Option Obj) (vs : Array Value), vs.size = args.length → (∀ b o, Z b = some o → w.heap[b]? = some o) → (∀ i (h : i < args.length), PRep Z args[i] (vs.getD i undef)) → ∃ u, PRep Z r u ∧ Calls P f vs w fun e w' => e = .returned u ∧ Below w.heap.size w w') : CtrOK P f (pureC rel) := by
  refine ⟨⟨fn, c, hf, hname, hb⟩, fun args r args' hrel w Z β vs hvs hwf hargs => ?_⟩
  simp only [pureC_rel] at hrel
  obtain ⟨rfl, hrel⟩ := hrel
  simp only [pureC_eff, Bool.false_eq_true, if_false] at hargs
  obtain ⟨rfl, hargs⟩ := hargs
  obtain ⟨u, hu, hc⟩ := h args r hrel w Z vs hvs hwf.zh hargs
  refine hc.mono ?_
  rintro en w' ⟨rfl, hbel⟩
  have hheap : ∀ b, b < w.heap.size → w'.heap[b]? = w.heap[b]? := fun b hb => hbel.block b hb
  exact ⟨u, Z, fun _ => none, rfl, ⟨hbel.os, hbel.tape, hbel.output, hbel.size, fun b hb _ => hheap b hb, fun _ _ h => h, fun _ _ h => .inl h, fun b o ho => (hheap b (lt_of_heap (hwf.zh b o ho))).trans (hwf.zh b o ho), by simp, by simp⟩, .pers hu, by simp⟩

theorem args1 {vs : Array Value} (h : vs.size = 1) : vs = #[vs.getD 0 undef] := by
  apply Array.ext (by simpa using h)
  intro i hi hi'
  obtain rfl : i = 0 := by omega
  simp [Array.getD, h]
theorem args2 {vs : Array Value} (h : vs.size = 2) : vs = #[vs.getD 0 undef, vs.getD 1 undef] := by
  apply Array.ext (by simpa using h)
  intro i hi hi'
  rcases (by omega : i = 0 ∨ i = 1) with rfl | rfl <;> simp [Array.getD, h]
theorem args3 {vs : Array Value} (h : vs.size = 3) : vs = #[vs.getD 0 undef, vs.getD 1 undef, vs.getD 2 undef] := by
  apply Array.ext (by simpa using h)
  intro i hi hi'
  rcases (by omega : i = 0 ∨ i = 1 ∨ i = 2) with rfl | rfl | rfl <;> simp [Array.getD, h]
theorem prep_num {Z : Nat → Option Obj} {k : IntKind} {n : Int} {v : Value} (h : PRep Z (.num k n) v) : v = .int k n := by cases h; rfl

end Go.Proofs.Ytcpfflnhbcbmnaa
