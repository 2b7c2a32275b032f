/- Plain predicates on memory: how a slice of integers, a slice of rows and an automaton read, and what stays when other blocks change. No condition. -/
import Derived.WalkKit
import Derived.Lib.Hide
import Derived.Deep.QuietTactic
import Derived.BigQuiet
import Derived.Deep.LoopGhost
import Derived.Deep.OwnRows
namespace Go.Proofs.Ytechllcflknnlaa
set_option linter.unusedSimpArgs false
set_option linter.unusedVariables false
set_option maxRecDepth 8000
open Go.RowKit

def nth (l : List Int) (k : Nat) : Int := l.getD k 0
def nthL (l : List (List Int)) (k : Nat) : List Int := l.getD k []

/-- The slice value v reads as the integers l, in blocks below B. -/
def IS (B : Nat) (w : World) (v : Value) (l : List Int) : Prop :=
  ∃ A c, v = .slice A l.length c ∧ l.length ≤ c ∧ c ≤ maxLen ∧
    (0 < l.length → ∃ b o, A = some ⟨b, o, none⟩ ∧ b < B ∧ ∀ k, k < l.length → w.cell? ⟨b, o + k, none⟩ = some (.int .i64 (nth l k)))

/-- The slice value v reads as the rows ll, all in blocks below B. -/
def ISS (B : Nat) (w : World) (v : Value) (ll : List (List Int)) : Prop :=
  ∃ A c, v = .slice A ll.length c ∧ ll.length ≤ c ∧ c ≤ maxLen ∧
    (0 < ll.length → ∃ b o, A = some ⟨b, o, none⟩ ∧ b < B ∧ ∀ k, k < ll.length → ∃ u, w.cell? ⟨b, o + k, none⟩ = some u ∧ IS B w u (nthL ll k))

theorem IS.below {B : Nat} {w w' : World} {v : Value} {l : List Int} (h : IS B w v l) (hb : Below B w w') : IS B w' v l := by
  obtain ⟨A, c, hv, h1, h2, h3⟩ := h
  refine ⟨A, c, hv, h1, h2, fun hl => ?_⟩
  obtain ⟨b, o, hA, hlt, hc⟩ := h3 hl
  exact ⟨b, o, hA, hlt, fun k hk => (hb.cell (p := ⟨b, o + k, none⟩) hlt).trans (hc k hk)⟩

theorem IS.mono {B B' : Nat} {w : World} {v : Value} {l : List Int} (h : IS B w v l) (hb : B ≤ B') : IS B' w v l := by
  obtain ⟨A, c, hv, h1, h2, h3⟩ := h
  refine ⟨A, c, hv, h1, h2, fun hl => ?_⟩
  obtain ⟨b, o, hA, hlt, hc⟩ := h3 hl
  exact ⟨b, o, hA, by omega, hc⟩

theorem ISS.below {B : Nat} {w w' : World} {v : Value} {l : List (List Int)} (h : ISS B w v l) (hb : Below B w w') : ISS B w' v l := by
  obtain ⟨A, c, hv, h1, h2, h3⟩ := h
  refine ⟨A, c, hv, h1, h2, fun hl => ?_⟩
  obtain ⟨b, o, hA, hlt, hc⟩ := h3 hl
  refine ⟨b, o, hA, hlt, fun k hk => ?_⟩
  obtain ⟨u, hu, hi⟩ := hc k hk
  exact ⟨u, (hb.cell (p := ⟨b, o + k, none⟩) hlt).trans hu, hi.below hb⟩

theorem ISS.mono {B B' : Nat} {w : World} {v : Value} {l : List (List Int)} (h : ISS B w v l) (hb : B ≤ B') : ISS B' w v l := by
  obtain ⟨A, c, hv, h1, h2, h3⟩ := h
  refine ⟨A, c, hv, h1, h2, fun hl => ?_⟩
  obtain ⟨b, o, hA, hlt, hc⟩ := h3 hl
  refine ⟨b, o, hA, by omega, fun k hk => ?_⟩
  obtain ⟨u, hu, hi⟩ := hc k hk
  exact ⟨u, hu, hi.mono hb⟩

/-- An automaton, as data. -/
structure AutoD where
  ends : List Int
  next : List (List Int)

/-- The value of a struct Auto reads as the automaton D. -/
def AutoV (B : Nat) (w : World) (v : Value) (D : AutoD) : Prop := ∃ v0 v1, v = .agg #[v0, v1] ∧ IS B w v0 D.ends ∧ ISS B w v1 D.next

theorem AutoV.below {B : Nat} {w w' : World} {v : Value} {D : AutoD} (h : AutoV B w v D) (hb : Below B w w') : AutoV B w' v D := by
  obtain ⟨v0, v1, e, h0, h1⟩ := h
  exact ⟨v0, v1, e, h0.below hb, h1.below hb⟩

theorem AutoV.mono {B B' : Nat} {w : World} {v : Value} {D : AutoD} (h : AutoV B w v D) (hb : B ≤ B') : AutoV B' w v D := by
  obtain ⟨v0, v1, e, h0, h1⟩ := h
  exact ⟨v0, v1, e, h0.mono hb, h1.mono hb⟩

structure AutoOK (D : AutoD) : Prop where
  lo : 1 ≤ D.ends.length
  hi : D.ends.length ≤ 10
  len : D.next.length = D.ends.length
  ends : ∀ k, k < D.ends.length → 0 ≤ nth D.ends k ∧ nth D.ends k ≤ 15
  rows : ∀ k, k < D.ends.length → (nthL D.next k).length = 12
  sets : ∀ k, k < D.ends.length → ∀ j, j < 12 → 0 ≤ nth (nthL D.next k) j ∧ nth (nthL D.next k) j ≤ 2 ^ D.ends.length - 1

open Classical in
noncomputable def autoOKB (D : AutoD) : Bool := decide (AutoOK D)
theorem autoOKB_true {D : AutoD} : autoOKB D = true ↔ AutoOK D := by simp [autoOKB]
theorem autoOKB_false {D : AutoD} : autoOKB D = false ↔ ¬ AutoOK D := by simp [autoOKB]

theorem shl_one (n : Nat) (h : n ≤ 10) : (2 : Int) ^ n ≤ 1024 ∧ 1 ≤ (2 : Int) ^ n := by
  have h1 : (2 : Int) ^ n = ((2 ^ n : Nat) : Int) := by simp
  have h2 : 2 ^ n ≤ 2 ^ 10 := Nat.pow_le_pow_right (by omega) h
  have h3 : 1 ≤ 2 ^ n := Nat.one_le_two_pow
  rw [h1]; omega

/-- A boxed struct of two fields: the world behind, under a name. -/
theorem box2 (w : World) (v0 v1 : Value) (t : TypeId) : ∃ W, w.alloc (.cells #[v0, v1] t) = W ∧ Below w.heap.size w W ∧ W.heap.size = w.heap.size + 1 ∧
    W.cell? ⟨w.heap.size, 0, none⟩ = some v0 ∧ W.cell? ⟨w.heap.size, 1, none⟩ = some v1 ∧ W.heap[w.heap.size]? = some (.cells #[v0, v1] t (0, 0)) := by
  refine ⟨_, rfl, (Below.refl _ _).alloc (Nat.le_refl _) _, by simp, ?_, ?_, heap_alloc_new w _⟩
  · rw [cell_of_row _ _ _ _ _ _ (heap_alloc_new w _)]; rfl
  · rw [cell_of_row _ _ _ _ _ _ (heap_alloc_new w _)]; rfl

theorem qdraw {P : Program} {f : FuncId} {args : Array Value} {w : World} {n : Nat} {v : Value}
    (h : Calls P f args (w.drewN n) fun e w' => e = .returned v ∧ ∃ m, w' = (w.drewN n).drewN m) : Calls P f args (w.drewN n) fun e w'' => e = .returned v ∧ ∃ m, w'' = w.drewN m :=
  Calls.quiet_of h

/-- A contract that leaves the world alone, met in a region that draws its order. -/
theorem qsame {P : Program} {f : FuncId} {args : Array Value} {w : World} {n : Nat} {v : Value}
    (h : Calls P f args (w.drewN n) fun e w' => e = .returned v ∧ w.drewN n = w') : Calls P f args (w.drewN n) fun e w'' => e = .returned v ∧ ∃ m, w'' = w.drewN m :=
  h.mono fun _ _ ⟨he, hm⟩ => ⟨he, n, hm.symm⟩

theorem below_at {B b o : Nat} {w w' : World} {v : Value} (h : Below B w w') (hb : b < B) (hc : w.cell? ⟨b, o, none⟩ = some v) : w'.cell? ⟨b, o, none⟩ = some v :=
  (h.cell (p := ⟨b, o, none⟩) hb).trans hc

/-- Block g is just these cells. -/
def Blk (w : World) (g : Nat) (t : TypeId) (cs : Array Value) : Prop := w.heap[g]? = some (.cells cs t (0, 0))
section
variable {w w' : World} {g : Nat} {t : TypeId} {cs : Array Value}
theorem Blk.lt (h : Blk w g t cs) : g < w.heap.size := (Array.getElem?_eq_some_iff.1 h).1
theorem Blk.cell (h : Blk w g t cs) (i : Nat) : w.cell? ⟨g, i, none⟩ = cs[i]? := cell_of_row w g i cs t (0, 0) h
theorem Blk.cell0 {a b : Value} (h : Blk w g t #[a, b]) : w.cell? ⟨g, 0, none⟩ = some a := h.cell 0
theorem Blk.cell1 {a b : Value} (h : Blk w g t #[a, b]) : w.cell? ⟨g, 1, none⟩ = some b := h.cell 1
theorem Blk.one {a : Value} (h : Blk w g t #[a]) : w.cell? ⟨g, 0, none⟩ = some a := h.cell 0
theorem Blk.frozen (h : Blk w g t cs) (i : Nat) : w.frozen? ⟨g, i, none⟩ = false := by unfold Blk at h; simp [World.frozen?, h]
theorem Blk.new (w : World) (t : TypeId) (cs : Array Value) : Blk (w.alloc (.cells cs t)) w.heap.size t cs := heap_alloc_new w _
theorem Blk.alloc (h : Blk w g t cs) (o : Obj) : Blk (w.alloc o) g t cs := (Below.heap_alloc w o g h.lt).trans h
theorem Blk.drewN (h : Blk w g t cs) (n : Nat) : Blk (w.drewN n) g t cs := h
theorem Blk.drew (h : Blk w g t cs) : Blk w.drew g t cs := h
theorem Blk.set_ (h : Blk w g t cs) (i : Nat) (u : Value) : Blk (w.setCell ⟨g, i, none⟩ u) g t (cs.setIfInBounds i u) := by
  unfold Blk at h ⊢; simp [World.setCell, Array.getElem?_modify, h]
theorem Blk.far (h : Blk w g t cs) {p : Addr} (hp : g ≠ p.block) (u : Value) : Blk (w.setCell p u) g t cs := (heap_setCell_other w p g u hp).trans h
theorem Blk.below {B : Nat} (h : Blk w g t cs) (hb : Below B w w') (hg : g < B) : Blk w' g t cs := (hb.block g hg).trans h
theorem Blk.ne_ {g' : Nat} {t' : TypeId} {cs' : Array Value} (h : Blk w g t cs) (h' : Blk w g' t' cs') (hne : t ≠ t') : g ≠ g' := by
  rintro rfl
  unfold Blk at h h'
  rw [h] at h'
  injection h' with h'
  injection h' with _ ht
  exact hne ht
end

theorem nth_ext {l m : List Int} (h : l.length = m.length) (hk : ∀ k, k < l.length → nth l k = nth m k) : l = m := by
  refine List.ext_getElem h fun k h1 h2 => ?_
  have := hk k h1
  simpa [nth, List.getD, List.getElem?_eq_getElem h1, List.getElem?_eq_getElem h2] using this
theorem nthL_ext {l m : List (List Int)} (h : l.length = m.length) (hk : ∀ k, k < l.length → nthL l k = nthL m k) : l = m := by
  refine List.ext_getElem h fun k h1 h2 => ?_
  have := hk k h1
  simpa [nthL, List.getD, List.getElem?_eq_getElem h1, List.getElem?_eq_getElem h2] using this

def eqI (a b : List Int) : Bool := decide (a = b)
theorem eqI_t {a b : List Int} (h : a = b) : eqI a b = true := by simp [eqI, h]
theorem eqI_f {a b : List Int} (h : a ≠ b) : eqI a b = false := by simp [eqI, h]
def eqII (a b : List (List Int)) : Bool := decide (a = b)
theorem eqII_t {a b : List (List Int)} (h : a = b) : eqII a b = true := by simp [eqII, h]
theorem eqII_f {a b : List (List Int)} (h : a ≠ b) : eqII a b = false := by simp [eqII, h]

theorem ret_bool {a b : Bool} (h : a = b) : Ending.returned (.bool a) = .returned (.bool b) := by rw [h]
theorem ret_int {k : IntKind} {a b : Int} (h : a = b) : Ending.returned (.int k a) = .returned (.int k b) := by rw [h]

/-- A row of the call's own that reads as the integers l, as a slice. -/
theorem IS.of_row {w : World} {g n : Nat} {l : List Int} {B : Nat} {t : TypeId} (h : w.rowIs g t n (fun k => .int .i64 (nth l k))) (hn : n = l.length) (hm : n ≤ maxLen) (hB : g < B) : IS B w (.slice (some ⟨g, 0, none⟩) n n) l := by
  subst hn
  exact ⟨_, _, rfl, Nat.le_refl _, hm, fun _ => ⟨g, 0, rfl, hB, fun k hk => by rw [Nat.zero_add]; exact h.cell hk⟩⟩

end Go.Proofs.Ytechllcflknnlaa
