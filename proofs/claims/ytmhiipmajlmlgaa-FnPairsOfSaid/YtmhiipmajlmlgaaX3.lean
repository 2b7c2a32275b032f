/- The search for a first trace in the program, over pairs of sets of states. Walked by the engine. -/
import Derived.Test.YtmhiipmajlmlgaaQ1
import Derived.Test.YtmhiipmajlmlgaaGrpT
import Derived.Test.YtmhiipmajlmlgaaGrpD
import Derived.Test.YtmhiipmajlmlgaaEngMin
namespace Go.Proofs.Ytmhiipmajlmlgaa
set_option linter.unusedSimpArgs false
set_option linter.unusedVariables false
set_option maxRecDepth 8000
set_option maxHeartbeats 2000000
open Go Go.RowKit AV

attribute [local go_sem] List.drop_zero List.drop_succ_cons List.take_zero List.take_succ_cons List.take_nil

def kP (K : List (Nat × Nat)) : List AV := K.map fun p => agg [I (p.1 : Int), I (p.2 : Int)]
def tP (n : Nat) : List AV := List.replicate n (.bool true)
theorem kP_mem {K : List (Nat × Nat)} {x : Nat × Nat} : agg [I (x.1 : Int), I (x.2 : Int)] ∈ kP K ↔ x ∈ K := by
  unfold kP
  rw [List.mem_map]
  constructor
  · rintro ⟨p, hp, h⟩
    simp at h
    have h2 : p = x := Prod.ext (by omega) (by omega)
    exact h2 ▸ hp
  · exact fun h => ⟨_, h, rfl⟩
def smP (K : List (Nat × Nat)) : Prop := ∀ p ∈ K, p.1 < 1048576 ∧ p.2 < 1048576
theorem kP_ok {K : List (Nat × Nat)} (h : smP K) : ∀ Y ∈ kP K, kOK 2 Y := by
  intro Y hY
  obtain ⟨p, hp, rfl⟩ := List.mem_map.1 hY
  have := h p hp
  show in64 _ ∧ in64 _
  unfold in64
  omega
theorem look_P {K : List (Nat × Nat)} {x : Nat × Nat} (h : smP K) (hx : x.1 < 1048576 ∧ x.2 < 1048576) : LookOK Try.prog 60 4 (kP K) (tP K.length) (agg [I (x.1 : Int), I (x.2 : Int)]) (.bool (decide (x ∈ K))) := by
  unfold LookOK
  rw [Ty_kkT_60]
  refine ⟨by decide, by show in64 _ ∧ in64 _; unfold in64; omega, kP_ok h, rfl, by simp, fun i hi => ?_, fun hn => ?_⟩
  · have hm : x ∈ K := kP_mem.1 (List.mem_of_getElem? hi)
    have hil : i < K.length := by have := (List.getElem?_eq_some_iff.1 hi).1; simpa [kP] using this
    simp [tP, hil, hm]
  · have hm : x ∉ K := fun h => hn (kP_mem.2 h)
    rw [Ty_zOf_4]
    simp [hm]
theorem upd_P {K : List (Nat × Nat)} {x : Nat × Nat} (h : smP K) (hx : x.1 < 1048576 ∧ x.2 < 1048576) (hn : x ∉ K) : UpdOK Try.prog 60 (kP K) (tP K.length) (agg [I (x.1 : Int), I (x.2 : Int)]) (.bool true) (kP (K ++ [x])) (tP (K ++ [x]).length) := by
  unfold UpdOK
  rw [Ty_kkT_60]
  refine ⟨by decide, by show in64 _ ∧ in64 _; unfold in64; omega, kP_ok h, rfl, by simp, .inr ⟨fun h => hn (kP_mem.1 h), by simp [kP], ?_⟩⟩
  rw [List.length_append, List.length_singleton, tP, tP, List.replicate_succ']

end Go.Proofs.Ytmhiipmajlmlgaa
