/- A contract whose result is settled. No program in sight. -/
import Derived.Test.YtehdfifncbokeaaGrpJ
namespace Go.Proofs.Ytehdfifncbokeaa
set_option linter.unusedSimpArgs false
set_option linter.unusedVariables false
set_option maxRecDepth 8000
set_option maxHeartbeats 2000000
open Go Go.RowKit AV

theorem TRep.of_plain {Z : Nat → Option Obj} {H : Array Obj} {β : List Nat → Option Nat} {e : Env} {t : Nat} {v : Value} (hpl : ∀ s p, e t ≠ .alias s p ∧ e t ≠ .valias s p ∧ e t ≠ .addr s p ∧ ∀ k, e t ≠ .win s p k) (h : ORep Z H β [t] (e t) v) : TRep Z H β e t v := by
  unfold TRep
  generalize e t = X at hpl h
  cases X with
  | alias s p => exact absurd rfl (hpl s p).1
  | valias s p => exact absurd rfl (hpl s p).2.1
  | addr s p => exact absurd rfl (hpl s p).2.2.1
  | win s p k => exact absurd rfl ((hpl s p).2.2.2 k)
  | _ => exact h

theorem ctr_view {P : Program} {f : Nat} {rel rel' : List AV → AV → Prop} (h : CtrOK P f (pureC rel)) (hrel : ∀ args x, rel' args x → ∃ r, rel args r ∧ isOwn r = true ∧ x = view r) : CtrOK P f (pureC rel') := by
  obtain ⟨hc, h⟩ := h
  refine ⟨hc, fun args x args' ⟨ha, hx⟩ w Z β vals hs hwf hargs => ?_⟩
  obtain ⟨r, hr, ho, rfl⟩ := hrel args x hx
  refine (h args r args' ⟨ha, hr⟩ w Z β vals hs hwf hargs).mono fun en w' ⟨v, Z', β', he, hl, hor, hrest⟩ => ?_
  have hpl := plain_of_own (c := r) (p := []) (by simp [getP]) ho
  let κ : Con := ⟨w, Z, fun b => ∃ p, β p = some b, fun _ => undef, (0, 1)⟩
  have hR : Rep κ Z' β' (fun t => if t = 0 then r else .junk) (fun _ => v) w' := {
    os := hl.os
    tape := hl.tape
    output := hl.output
    size := hl.size
    frame := fun b hb hn => hl.frame b hb fun p hp => hn ⟨p, hp⟩
    z0 := hl.z0
    zo := fun b o hz => by
      rcases hl.zo b o hz with h1 | h1 | h1
      · exact .inl h1
      · exact .inr (.inl h1)
      · exact .inr (.inr h1)
    zh := hl.zh
    inj := hl.inj
    bo := fun p b hb => by
      obtain ⟨h1, h2, h3⟩ := hl.bo p b hb
      exact ⟨h1, h2, h3⟩
    reps := fun t => by
      by_cases e : t = 0
      · subst e
        exact TRep.of_plain (by simpa using hpl.2) (by simpa using hor)
      · exact TRep.of_plain (by simp [e]) (by simp only [e, if_false]; exact .pers (.junk _)) }
  obtain ⟨Z2, β2, hR2, hZ2, hB2, -⟩ := hR.freeze 0 [] r (by simp [getP]) (by simpa using hpl.2) (by simpa using hpl.1) (view_plain r) (view_noOwn r)
  have hO := hR2.slot' (t := 0) (A := view r) (by simp [Wr.app, view_noOwn r, setP, upd]) (view_plain r)
  refine ⟨v, Z2, β2, he, ⟨hR2.os, hR2.tape, hR2.output, hR2.size, fun b hb hn => hR2.frame b hb fun ⟨p, hp⟩ => hn p hp, hR2.z0, fun b o hz => ?_, hR2.zh, hR2.inj, fun p b hb => hR2.bo p b hb⟩, hO, ?_⟩
  · rcases hR2.zo b o hz with h1 | h1 | h1
    · exact .inl h1
    · exact .inr (.inl h1)
    · exact .inr (.inr h1)
  · subst ha
    intro i hi
    simp at hi

end Go.Proofs.Ytehdfifncbokeaa
