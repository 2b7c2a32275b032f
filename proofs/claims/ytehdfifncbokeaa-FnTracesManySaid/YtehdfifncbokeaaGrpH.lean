/- Expressions as trees, in the program, walked by the engine. -/
import Derived.Test.YtehdfifncbokeaaGrpD
import Derived.Test.YtehdfifncbokeaaGrpJ
import Derived.Test.YtehdfifncbokeaaEngMin
import Derived.Test.YtehdfifncbokeaaGrpC
namespace Go.Proofs.Ytehdfifncbokeaa
set_option linter.unusedSimpArgs false
set_option linter.unusedVariables false
set_option maxRecDepth 8000
set_option maxHeartbeats 2000000
open Go Go.RowKit AV

def Ex.subs : Ex → List Ex
  | .leaf _ => []
  | .thn a b => [a, b]
  | .pls a b => [a, b]
  | .str a => [a]
def treeA : Ex → AV
  | .leaf n => .pbox [I n, .sh []]
  | .thn a b => .pbox [I 19, .sh [treeA a, treeA b]]
  | .pls a b => .pbox [I 20, .sh [treeA a, treeA b]]
  | .str a => .pbox [I 21, .sh [treeA a]]
theorem treeA_eq (x : Ex) : treeA x = .pbox [I x.op, .sh (x.subs.map treeA)] := by cases x <;> rfl
theorem treeA_view (x : Ex) : view (treeA x) = treeA x := by cases x <;> rfl
theorem treeA_isP (x : Ex) : isP (treeA x) = true := by cases x <;> rfl
theorem allP_trees (l : List Ex) : allP (l.map treeA) = true := (allP_iff _).2 fun a h => by
  obtain ⟨x, _, rfl⟩ := List.mem_map.1 h
  exact treeA_isP x
theorem view_trees : view ∘ treeA = treeA := by funext x; exact treeA_view x

def stk (st : List Ex) : List Ex := st.reverse
theorem push_stk {n : Int} {st st' : List Ex} (h : push n st = some st') : ∃ x : Ex, st' = x :: st.drop (takesN n) ∧ x.op = n ∧ x.subs = (stk st).drop (st.length - takesN n) ∧ takesN n ≤ st.length := by
  rcases push_inv h with ⟨h0, h1, rfl⟩ | ⟨rfl, a, b, r, rfl, rfl⟩ | ⟨rfl, a, b, r, rfl, rfl⟩ | ⟨rfl, a, r, rfl, rfl⟩
  · exact ⟨.leaf n, by rw [takesN_leaf h1]; rfl, rfl, by rw [takesN_leaf h1]; simp [stk, Ex.subs], by rw [takesN_leaf h1]; omega⟩
  · refine ⟨.thn a b, rfl, rfl, ?_, by simp [takesN]⟩
    simp [stk, Ex.subs, takesN]
  · refine ⟨.pls a b, rfl, rfl, ?_, by simp [takesN]⟩
    simp [stk, Ex.subs, takesN]
  · refine ⟨.str a, rfl, rfl, ?_, by simp [takesN]⟩
    simp [stk, Ex.subs, takesN]

theorem runS_step {e : List Int} {k : Nat} {st : List Ex} {x : Ex} (hk : k < e.length) (h : runS (e.take k) [] = some st) (hx : runS e [] = some [x]) : ∃ st', push e[k] st = some st' ∧ runS (e.take (k + 1)) [] = some st' := by
  have := runS_take hk h hx
  rwa [nth_getElem hk] at this

def buildR (args : List AV) (r : AV) : Prop := ∃ x : Ex, args = [ints x.steps] ∧ x.wf ∧ x.steps.length ≤ 1099511627776 ∧ r = treeA x
theorem build_ctr : CtrOK Try.prog 18 (pureC buildR) := by
  refine ctr_pure' Try.func18 rfl rfl Try.ntmps18 ?_
  rintro _ _ ⟨x, rfl, hw, hl, rfl⟩
  refine ⟨by simp, fun κ hκ => ?_⟩
  have hbig := bigW_gt
  rw [argEnv_eq]
  simp only [envA]
  have hΓ := ctxOf_ok (P := Try.prog) (cx takes_ctr <| cx0)
  have hrun : runS x.steps [] = some [x] := runS_steps x hw []
  repeat' (first | exact hb.elim | refine wS fun K hK => ?_ | refine wB ?_ | refine uR hΓ ?_ | refine uD hΓ fun B hB => ?_ | ((repeat ((fail_if_success (refine hK _ ?_)); clear hK K)); refine hK _ ?_; clear hK K) | refine u1 ?_ | refine uC (fun hb => ?_) fun hb => ?_ | refine u2 (fun hc => ?_) fun hc => ?_ | refine wI ?_ | refine ex_idx (by omega) ?_ | exact True.intro | fail)
  refine CW.loop (ι := Nat × List Ex) (fun y => [(3, .own ((stk y.2).map treeA)), (8, ints x.steps), (9, I x.steps.length), (10, I (y.1 : Nat))]) (fun y => y.1 ≤ x.steps.length ∧ runS (x.steps.take y.1) [] = some y.2) (fun y => x.steps.length - y.1) (0, []) ?_ ?_
  · exact ⟨by (simp only [xe, xj, Nat.reduceEqDiff]; (try simp [view, viewL_map]); (try omega)); simp [stk], by simp, by simp [runS]⟩
  rintro ⟨k, st⟩ ⟨hk, hst⟩
  dsimp only at hk hst ⊢
  simp only [envOf]
  have hsl := (depthAt_le (e := x.steps) (k := k) ⟨st, hst, rfl⟩ hk)
  have hskl : (stk st).length = st.length := by simp [stk]
  refine CW.frzPost (N := fun e' => ∃ (n : Nat) (A : AV), getP (e' 3) [n] = some A ∧ isOwn A = true ∧ ∃ y : Nat × List Ex, LeL ((Wr.mod 3 [n] (view A)).app e') [(3, .own ((stk y.2).map treeA)), (8, ints x.steps), (9, I x.steps.length), (10, I (y.1 : Nat))] ∧ (y.1 ≤ x.steps.length ∧ runS (x.steps.take y.1) [] = some y.2) ∧ x.steps.length - y.1 < x.steps.length - k) ?_ ?_
  rotate_left
  · rintro e' ⟨n, A, h1, h2, h3⟩
    exact .inr ⟨3, [n], A, h1, h2, h3⟩
  by_cases hkl : k < x.steps.length
  case neg =>
    have hke : k = x.steps.length := by omega
    subst hke
    rw [List.take_length, hrun] at hst
    injection hst with hst
    subst hst
    have hs1 : (stk [x]).map treeA = [treeA x] := rfl
    rw [hs1]
    repeat' (first | refine wS fun K hK => ?_ | refine wB ?_ | ((first | refine wR hΓ ?_ | refine wD hΓ fun B hB => ?_); simp (maxSteps := 2000000) only [go_sem, treeA_eq]) | ((repeat ((fail_if_success (refine hK _ ?_)); clear hK K)); refine hK _ ?_; clear hK K) | (refine w1 ?_; simp only [xs, xi, Nat.reduceEqDiff, reduceCtorEq]) | (refine wC (fun hb => ?_) fun hb => ?_ <;> (try simp only [xb, reduceCtorEq] at hb)) | (refine w2 (fun hc => ?_) (fun hc => ?_) <;> (try simp only [xc] at hc) <;> (try simp only [go_sem, hc, treeA_eq]) <;> (try simp only [xb] at hc)) | refine wI ?_ | refine ex_idx (by omega) ?_ | fail)
    · omega
    · simp [Try.results18, RetOK, upd_at, plainB, treeA_eq]
  obtain ⟨st', hpu, hst'⟩ := runS_step hkl hst hrun
  obtain ⟨z, hz1, hz2, hz3, hz4⟩ := push_stk hpu
  have hcs : (((stk st).length : Nat) : Int) - ((takesN x.steps[k] : Nat) : Int) = ((st.length - takesN x.steps[k] : Nat) : Int) := by omega
  have htk := takesN_le x.steps[k]
  have hbw : st.length - takesN x.steps[k] < 1180591620717411303424 := by omega
  have hdr : allP (((stk st).map treeA).drop (st.length - takesN x.steps[k])) = true := by rw [← List.map_drop]; exact allP_trees _
  repeat' (first | exact hb.elim | refine wS fun K hK => ?_ | refine wB ?_ | refine uR hΓ ?_ | refine uD hΓ fun B hB => ?_ | ((repeat ((fail_if_success (refine hK _ ?_)); clear hK K)); refine hK _ ?_; clear hK K) | refine u1 ?_ | refine uC (fun hb => ?_) fun hb => ?_ | refine u2 (fun hc => ?_) fun hc => ?_ | refine wI ?_ | refine ex_idx (by omega) ?_ | exact True.intro | fail)
  · (first | refine wA rfl _ (⟨_, rfl, rfl⟩) ?_ | refine dA rfl _ (⟨_, rfl, rfl⟩) ?_); simp (maxSteps := 2000000) only [go_sem]
    repeat' (first | refine wS fun K hK => ?_ | refine wB ?_ | ((first | refine wR hΓ ?_ | refine wD hΓ fun B hB => ?_); simp (maxSteps := 2000000) only [go_sem, hcs, hdr]) | ((repeat ((fail_if_success (refine hK _ ?_)); clear hK K)); refine hK _ ?_; clear hK K) | (refine w1 ?_; simp only [xs, xi, Nat.reduceEqDiff, reduceCtorEq]) | (refine wC (fun hb => ?_) fun hb => ?_ <;> (try simp only [xb, reduceCtorEq] at hb)) | (refine w2 (fun hc => ?_) (fun hc => ?_) <;> (try simp only [xc] at hc) <;> (try simp only [go_sem, hc, hcs, hdr]) <;> (try simp only [xb] at hc)) | refine wI ?_ | refine ex_idx (by omega) ?_ | fail)
    have hvd : viewL (((stk st).map treeA).drop (st.length - takesN x.steps[k])) = ((stk st).map treeA).drop (st.length - takesN x.steps[k]) := by
      rw [← List.map_drop, viewL_map, List.map_map, view_trees]
    have hfin : (stk st').map treeA = ((stk st).map treeA).take (st.length - takesN x.steps[k]) ++ [.pbox [I x.steps[k], .sh (((stk st).map treeA).drop (st.length - takesN x.steps[k]))]] := by
      have h1 : stk st' = (stk st).take (st.length - takesN x.steps[k]) ++ [z] := by
        rw [hz1]
        unfold stk
        rw [List.take_reverse, show st.length - (st.length - takesN x.steps[k]) = takesN x.steps[k] by omega]
        simp
      rw [h1, List.map_append, List.map_take]
      simp only [List.map_cons, List.map_nil]
      rw [treeA_eq z, hz2, hz3, List.map_drop]
    have hlt : (((stk st).map treeA).take (st.length - takesN x.steps[k])).length = st.length - takesN x.steps[k] := by simp [hskl]
    generalize st.length - takesN x.steps[k] = n at *
    generalize hB : (AV.box [num IntKind.i64 x.steps[k], own (List.drop n ((stk st).map treeA))]) = B
    refine ⟨n, B, ?_, by rw [← hB]; rfl, (k + 1, st'), ?_, ⟨by dsimp only; omega, hst'⟩, by dsimp only; omega⟩
    · rw [List.getElem?_append_right (by omega), hlt, Nat.sub_self]
      rfl
    · have hvB : view B = .pbox [I x.steps[k], .sh (((stk st).map treeA).drop n)] := by rw [← hB]; simp only [view, viewL]; rw [hvd]
      rw [hvB, app_mod_pbox]
      have hset : (((stk st).map treeA).take n ++ [B]).set n (.pbox [I x.steps[k], .sh (((stk st).map treeA).drop n)]) = (stk st').map treeA := by
        rw [hfin, List.set_append_right _ _ (by omega), hlt, Nat.sub_self]
        rfl
      simp only [LeL, upd_at, if_true, if_false, Nat.reduceEqDiff, setP, kids, withKids, List.getD]
      rw [hset]
      exact ⟨.inl rfl, .inl trivial, .inl trivial, .inl (by simp), trivial⟩
  · omega

def stepsR (N : Nat) (args : List AV) (r : AV) : Prop := ∃ x : Ex, args = [treeA x] ∧ x.steps.length ≤ N ∧ r = oints x.steps
theorem subs_steps (x : Ex) : x.steps = (x.subs.flatMap Ex.steps) ++ [x.op] := by cases x <;> simp [Ex.steps, Ex.subs, Ex.op]
theorem subs_len {x y : Ex} (h : y ∈ x.subs) : y.steps.length < x.steps.length := by
  cases x with
  | leaf n => simp [Ex.subs] at h
  | thn a b =>
    simp only [Ex.subs, List.mem_cons, List.not_mem_nil, or_false] at h
    simp only [Ex.steps, List.length_append, List.length_cons, List.length_nil]
    rcases h with rfl | rfl <;> omega
  | pls a b =>
    simp only [Ex.subs, List.mem_cons, List.not_mem_nil, or_false] at h
    simp only [Ex.steps, List.length_append, List.length_cons, List.length_nil]
    rcases h with rfl | rfl <;> omega
  | str a =>
    simp only [Ex.subs, List.mem_cons, List.not_mem_nil, or_false] at h
    simp only [Ex.steps, List.length_append, List.length_cons, List.length_nil]
    subst h; omega
theorem flat_take {l : List Ex} {k : Nat} (h : k < l.length) : (l.take (k + 1)).flatMap Ex.steps = (l.take k).flatMap Ex.steps ++ l[k].steps := by
  rw [List.take_succ_eq_append_getElem h, List.flatMap_append]
  simp only [List.flatMap_cons, List.flatMap_nil, List.append_nil]
theorem flat_take_len (l : List Ex) (k : Nat) : ((l.take k).flatMap Ex.steps).length ≤ (l.flatMap Ex.steps).length := by
  have h : l.flatMap Ex.steps = (l.take k).flatMap Ex.steps ++ (l.drop k).flatMap Ex.steps := by rw [← List.flatMap_append, List.take_append_drop]
  rw [h, List.length_append]; omega

theorem steps_step (N : Nat) (hN : N ≤ 4194304) (ih : CtrOK Try.prog 20 (pureC (stepsR (N - 1)))) : CtrOK Try.prog 20 (pureC (stepsR N)) := by
  have tsteps_ctr := ih
  refine ctr_pure' Try.func20 rfl rfl Try.ntmps20 ?_
  rintro _ _ ⟨x, rfl, hl, rfl⟩
  refine ⟨by simp, fun κ hκ => ?_⟩
  have hbig := bigW_gt
  rw [argEnv_eq]
  simp only [envA]
  have hΓ := ctxOf_ok (P := Try.prog) (cx tsteps_ctr <| cx0)
  have hss := subs_steps x
  have hsl : x.steps.length = (x.subs.flatMap Ex.steps).length + 1 := by rw [hss]; simp
  have hs2 : x.subs.length ≤ 2 := by cases x <;> simp [Ex.subs]
  rw [treeA_eq]
  repeat' (first | exact hb.elim | refine wS fun K hK => ?_ | refine wB ?_ | refine uR hΓ ?_ | refine uD hΓ fun B hB => ?_ | ((repeat ((fail_if_success (refine hK _ ?_)); clear hK K)); refine hK _ ?_; clear hK K) | refine u1 ?_ | refine uC (fun hb => ?_) fun hb => ?_ | refine u2 (fun hc => ?_) fun hc => ?_ | refine wI ?_ | refine ex_idx (by omega) ?_ | exact True.intro | fail)
  refine CW.loop (ι := Nat) (fun k => [(0, .pbox [I x.op, .sh (x.subs.map treeA)]), (3, oints ((x.subs.take k).flatMap Ex.steps)), (9, .sh (x.subs.map treeA)), (10, I x.subs.length), (11, I k)]) (fun k => k ≤ x.subs.length) (fun k => x.subs.length - k) 0 ?_ ?_
  · exact ⟨by (simp only [xe, xj, Nat.reduceEqDiff]; (try simp [view, viewL_map]); (try omega)), by omega⟩
  rintro k hk
  simp only [envOf]
  have hfl := flat_take_len x.subs k
  repeat' (first | refine wS fun K hK => ?_ | refine wB ?_ | ((first | refine wR hΓ ?_ | refine wD hΓ fun B hB => ?_); simp (maxSteps := 2000000) only [go_sem, treeA_eq]) | ((repeat ((fail_if_success (refine hK _ ?_)); clear hK K)); refine hK _ ?_; clear hK K) | (refine w1 ?_; simp only [xs, xi, Nat.reduceEqDiff, reduceCtorEq]) | (refine wC (fun hb => ?_) fun hb => ?_ <;> (try simp only [xb, reduceCtorEq] at hb)) | (refine w2 (fun hc => ?_) (fun hc => ?_) <;> (try simp only [xc] at hc) <;> (try simp only [go_sem, hc, treeA_eq]) <;> (try simp only [xb] at hc)) | refine wI ?_ | refine ex_idx (by omega) ?_ | fail)
  · have hkl : k < x.subs.length := by omega
    have hlt := subs_len (List.getElem_mem hkl)
    have hf2 := flat_take_len x.subs (k + 1)
    rw [flat_take hkl, List.length_append] at hf2
    (first | refine wA rfl _ (⟨x.subs[k], by rw [treeA_eq], by omega, rfl⟩) ?_ | refine dA rfl _ (⟨x.subs[k], by rw [treeA_eq], by omega, rfl⟩) ?_); simp (maxSteps := 2000000) only [go_sem]
    repeat' (first | exact hb.elim | refine wS fun K hK => ?_ | refine wB ?_ | refine uR hΓ ?_ | refine uD hΓ fun B hB => ?_ | ((repeat ((fail_if_success (refine hK _ ?_)); clear hK K)); refine hK _ ?_; clear hK K) | refine u1 ?_ | refine uC (fun hb => ?_) fun hb => ?_ | refine u2 (fun hc => ?_) fun hc => ?_ | refine wI ?_ | refine ex_idx (by omega) ?_ | exact True.intro | fail)
    refine ⟨k + 1, ?_, by omega, by omega⟩
    rw [flat_take hkl]
    (simp only [xe, xj, Nat.reduceEqDiff]; (try simp [view, viewL_map]); (try omega))
  · have hke : x.subs.take k = x.subs := List.take_of_length_le (by omega)
    rw [hke]
    have : List.map I (x.subs.flatMap Ex.steps) ++ [I x.op] = List.map I x.steps := by rw [hss]; simp
    rw [this]
    simp [Try.results20, RetOK, RetP, backA, upd_at, plainB, getP, isOwn, anyOwn, isP]

theorem steps_all : ∀ N : Nat, N ≤ 4194304 → CtrOK Try.prog 20 (pureC (stepsR N))
  | 0, _ => steps_step 0 (by omega) ⟨⟨_, _, Try.func20, rfl, rfl⟩, fun args r args' ⟨_, x, _, h, _⟩ => by have := x.steps_pos; omega⟩
  | N + 1, h => steps_step (N + 1) h (steps_all N (by omega))
theorem tsteps_ctr : CtrOK Try.prog 20 (pureC (stepsR 4194304)) := steps_all 4194304 (by omega)

end Go.Proofs.Ytehdfifncbokeaa

namespace Go.Proofs.Ytehdfifncbokeaa
set_option linter.unusedSimpArgs false
set_option linter.unusedVariables false
set_option maxRecDepth 8000
set_option maxHeartbeats 2000000
open Go Go.RowKit AV

end Go.Proofs.Ytehdfifncbokeaa

namespace Go.Proofs.Ytehdfifncbokeaa
set_option linter.unusedSimpArgs false
set_option linter.unusedVariables false
set_option maxRecDepth 8000
set_option maxHeartbeats 2000000
open Go Go.RowKit AV

end Go.Proofs.Ytehdfifncbokeaa

namespace Go.Proofs.Ytehdfifncbokeaa
set_option linter.unusedSimpArgs false
set_option linter.unusedVariables false
set_option maxRecDepth 8000
set_option maxHeartbeats 2000000
open Go Go.RowKit AV

def idxF {α : Type} (q : α → Bool) : Nat → List α → Int
  | _, [] => -1
  | n, x :: l => if q x then (n : Int) else idxF q (n + 1) l
theorem idxF_skip {α : Type} {q : α → Bool} {n k : Nat} {l : List α} (h : k < l.length) (hq : q l[k] = false) : idxF q (n + k) (l.drop k) = idxF q (n + (k + 1)) (l.drop (k + 1)) := by
  rw [List.drop_eq_getElem_cons h, idxF, hq, if_neg (by simp)]
  rfl
theorem idxF_hit {α : Type} {q : α → Bool} {n : Nat} {k : Nat} {l : List α} (h : k < l.length) (hq : q l[k] = true) : idxF q n (l.drop k) = (n : Int) := by
  rw [List.drop_eq_getElem_cons h, idxF, hq, if_pos rfl]
theorem idxF_bd {α : Type} {q : α → Bool} : ∀ (l : List α) (n : Nat), -1 ≤ idxF q n l ∧ idxF q n l ≤ n + l.length
  | [], n => by simp [idxF]
  | x :: l, n => by
    have := idxF_bd (q := q) l (n + 1)
    simp only [idxF, List.length_cons]
    split <;> omega
theorem idxF_neg {α : Type} {q : α → Bool} : ∀ (l : List α) (n : Nat), idxF q n l < 0 ↔ ∀ x ∈ l, q x = false
  | [], n => by simp [idxF]
  | x :: l, n => by
    have := idxF_neg (q := q) l (n + 1)
    simp only [idxF, List.mem_cons, forall_eq_or_imp]
    cases q x with
    | true => simp
    | false => simpa using this

end Go.Proofs.Ytehdfifncbokeaa
