/- The library's slices.SortFunc at rows of integers that are held alone: the engine's contract. -/
import Derived.Test.YtehdfifncbokeaaGreatS1
import Derived.Test.YtehdfifncbokeaaGreatGrpC
import Derived.Test.YtehdfifncbokeaaGreatLay
import Derived.Shelf.SlSortCmp.NoneTotal
namespace Go.Proofs.YtehdfifncbokeaaGreat
set_option linter.unusedSimpArgs false
set_option linter.unusedVariables false
set_option maxRecDepth 8000
set_option maxHeartbeats 2000000
open Go Go.Shelf Go.RowKit Go.Lib Go.Sort AV

def sortR (args : List AV) (r : AV) (args' : List AV) : Prop := ∃ l : LL, args = [.own (l.map oints), .fn 73 []] ∧ l.length ≤ 1048576 ∧ r = .tup [] ∧ args' = [.own ((sortL l).map oints)]

theorem cmpL_neg (a b : List Int) : decide (cmpL a b < 0) = lexLt a b := by
  unfold cmpL
  cases h : lexLt a b with
  | true => rfl
  | false =>
    rw [if_neg (by simp)]
    split <;> rfl

theorem oints_is {Z : Nat → Option Obj} {w : World} {β : List Nat → Option Nat} {p : List Nat} {x : List Int} {v : Value} (h : ORep Z w.heap β p (oints x) v) (hb : ∀ r b, β (p ++ r) = some b → b < w.heap.size) : IS w.heap.size w v x := by
  generalize hA : oints x = A at h
  cases h with
  | pers h => rw [← hA] at h; cases h
  | nil =>
    injection hA with hA
    have hx : x = [] := by simpa using hA
    subst hx
    exact ⟨none, 0, rfl, by simp, by decide, fun h => absurd h (by simp)⟩
  | own l b c cs T us hb0 hz h1 h2 h3 hu h4 hk =>
    injection hA with hA
    subst hA
    refine ⟨some ⟨b, 0, none⟩, c, by simp, by simpa using h1, h3, fun _ => ⟨b, 0, rfl, hb [] b (by simpa using hb0), fun k hk' => ?_⟩⟩
    have hk2 : k < (x.map I).length := by simpa using hk'
    have h5 := hk k hk2
    simp only [List.getElem_map] at h5
    have h6 := ORep.toP h5 rfl
    have h7 : us k = .int .i64 (nth x k) := by
      rw [nth_getElem hk']
      generalize us k = u at h6
      cases h6; rfl
    rw [← h7]
    exact cell_heap hz (by simpa using hu k hk2)
  | box => cases hA
  | agg => cases hA
  | tup => cases hA
  | omap => cases hA
  | memo => cases hA
  | rnil => cases hA
  | orec => cases hA
  | oiter => cases hA

theorem sort_left {Z : Nat → Option Obj} {β : List Nat → Option Nat} {w w' : World} {b c : Nat} {cs cs' : Array Value} {T : TypeId} {us : Nat → Value} {l l' : LL} {σ : Nat → Nat} {v1 : Value} (hwf : Wf Z β w) (hb : β [0] = some b) (hz : w.heap[b]? = some (.cells cs T (0, 0))) (h1 : l.length ≤ c) (h2 : c = cs.size) (h3 : c ≤ maxLen)
    (h4 : ∀ k, k < l.length → (us k).oneCell' = true) (hk : ∀ k (h : k < l.length), ORep Z w.heap β [0, k] (oints l[k]) (us k)) (hl' : l'.length = l.length) (hσ : ∀ k, k < l.length → σ k < l.length) (hinj : ∀ i j, i < l.length → j < l.length → σ i = σ j → i = j)
    (hget : ∀ k (h : k < l'.length) (h' : σ k < l.length), l'[k] = l[σ k]) (hz' : w'.heap[b]? = some (.cells cs' T (0, 0))) (hs' : cs'.size = cs.size) (hc' : ∀ k, k < l.length → cs'[k]? = some (us (σ k))) (ho : ∀ b', b' ≠ b → b' < w.heap.size → w'.heap[b']? = w.heap[b']?)
    (hsz : w.heap.size ≤ w'.heap.size) (hos : w'.os = w.os) (htape : w'.tape = w.tape) (hout : w'.output = w.output) :
    ∃ v Z' β', Ending.returned (.tuple #[]) = .returned v ∧ Left Z β w Z' β' w' ∧ ORep Z' w'.heap β' [0] (.tup []) v ∧ ∀ i (h : i < [AV.own (l'.map oints)].length), ORep Z' w'.heap β' [i + 1] [AV.own (l'.map oints)][i] ((#[.slice (some ⟨b, 0, none⟩) l.length c, v1] : Array Value).getD i undef) := by
  let β' : List Nat → Option Nat := fun q => match q with
    | [1] => some b
    | 1 :: k :: r => if k < l.length then β (0 :: σ k :: r) else none
    | _ => none
  have hsp : ∀ q x, β' q = some x → (q = [1] ∧ x = b) ∨ ∃ k r, q = 1 :: k :: r ∧ k < l.length ∧ β (0 :: σ k :: r) = some x := by
    intro q x hq
    simp only [β'] at hq
    split at hq
    · injection hq with hq; exact .inl ⟨rfl, hq.symm⟩
    · rename_i k r
      split at hq
      · rename_i hkl; exact .inr ⟨k, r, rfl, hkl, hq⟩
      · cases hq
    · cases hq
  have hne : ∀ k r x, β (0 :: k :: r) = some x → x ≠ b := fun k r x hx e => by
    subst e
    have := hwf.inj _ _ _ hx hb
    simp at this
  refine ⟨_, Z, β', rfl, ⟨hos, htape, hout, hsz, fun x hx hn => ho x (fun e => hn [0] (e ▸ hb)) hx, fun _ _ h => h, fun _ _ h => .inl h, fun x o hx => ?_, fun q1 q2 x g1 g2 => ?_, fun q x hq => ?_⟩, .tup [] #[] rfl (fun k h => absurd h (by simp)), fun i hi => ?_⟩
  · have hlt := (Array.getElem?_eq_some_iff.1 (hwf.zh x o hx)).1
    rw [ho x (fun e => by subst e; rw [(hwf.bo _ _ hb).1] at hx; cases hx) hlt]
    exact hwf.zh x o hx
  · rcases hsp q1 x g1 with ⟨rfl, e1⟩ | ⟨k1, r1, rfl, hk1, e1⟩ <;> rcases hsp q2 x g2 with ⟨rfl, e2⟩ | ⟨k2, r2, rfl, hk2, e2⟩
    · rfl
    · exact absurd e1 (hne _ _ _ e2)
    · exact absurd e2 (hne _ _ _ e1)
    · have := hwf.inj _ _ _ e1 e2
      simp only [List.cons.injEq, true_and] at this
      rw [hinj k1 k2 hk1 hk2 this.1, this.2]
  · rcases hsp q x hq with ⟨rfl, rfl⟩ | ⟨k, r, rfl, hkl, e⟩
    · exact ⟨.inl ⟨[0], hb⟩, (hwf.bo _ _ hb).1, Nat.lt_of_lt_of_le (hwf.bo _ _ hb).2 hsz⟩
    · exact ⟨.inl ⟨_, e⟩, (hwf.bo _ _ e).1, Nat.lt_of_lt_of_le (hwf.bo _ _ e).2 hsz⟩
  · have hi0 : i = 0 := by simpa using hi
    subst hi0
    show ORep Z w'.heap β' [1] (.own (l'.map oints)) (.slice (some ⟨b, 0, none⟩) l.length c)
    have := ORep.own (Z := Z) (H := w'.heap) (β := β') (p := [1]) (l'.map oints) b c cs' T (fun k => us (σ k)) rfl hz' (by simpa [hl'] using h1) (h2.trans hs'.symm) h3 (fun k hk' => hc' k (by simpa [hl'] using hk')) (fun k hk' => h4 _ (hσ k (by simpa [hl'] using hk'))) (fun k hk' => by
      have hkl : k < l.length := by simpa [hl'] using hk'
      have hσk := hσ k hkl
      simp only [List.getElem_map]
      rw [hget k (by omega) hσk]
      refine (hk _ hσk).move (fun _ _ h => h) fun r x hr => ⟨?_, ho x (hne _ _ _ hr) (hwf.bo _ _ hr).2⟩
      show β' (1 :: k :: r) = some x
      simp only [β']
      rw [if_pos hkl]; exact hr)
    rw [List.length_map, hl'] at this
    exact this

theorem oints_in {Z : Nat → Option Obj} {w W : World} {β : List Nat → Option Nat} {p : List Nat} {x : List Int} {v : Value} (h : ORep Z w.heap β p (oints x) v) (hW : ∀ r b, β (p ++ r) = some b → W.heap[b]? = w.heap[b]? ∧ b < W.heap.size) : IS W.heap.size W v x :=
  oints_is (h.move (H' := W.heap) (β' := β) (fun _ _ h => h) fun r b hb => ⟨hb, (hW r b hb).1⟩) fun r b hb => (hW r b hb).2

theorem swo_rows (l : LL) : SWO (ltOf fun i j : Nat => cmpL (l.getD i []) (l.getD j [])) where
  irrefl x := by unfold ltOf; rw [cmpL_neg]; exact lexLt_irrefl _
  trans x y z h1 h2 := by unfold ltOf at *; rw [cmpL_neg] at *; exact lexLt_trans h1 h2
  ntrans x y z h1 h2 := by unfold ltOf at *; rw [cmpL_neg] at *; exact lexLt_ntrans h1 h2

theorem sw_other {enc : Nat → Value} {w : World} {blk m : Nat} {dk : Array Nat} {os : Array Obj} {b : Nat} (hb : b ≠ blk) (hlt : b < w.heap.size) : (sortWorld enc w blk 0 m dk os).heap[b]? = w.heap[b]? := by
  unfold sortWorld
  rw [heap_grow_old _ _ (by simpa [putRow, mapBlock, Go.Sort.ahead] using hlt)]
  simp only [putRow, mapBlock, Go.Sort.ahead, Array.getElem?_modify]
  rw [if_neg (Ne.symm hb)]
theorem sw_at {enc : Nat → Value} {w : World} {blk m : Nat} {dk : Array Nat} {os : Array Obj} {cs : Array Value} {T : TypeId} {fz : Nat × Nat} (hz : w.heap[blk]? = some (.cells cs T fz)) : (sortWorld enc w blk 0 m dk os).heap[blk]? = some (.cells (putCells enc 0 dk cs) T fz) := by
  have hlt : blk < w.heap.size := (Array.getElem?_eq_some_iff.1 hz).1
  unfold sortWorld
  rw [heap_grow_old _ _ (by simpa [putRow, mapBlock, Go.Sort.ahead] using hlt)]
  simp only [putRow, mapBlock, Go.Sort.ahead, Array.getElem?_modify, if_true, hz, Option.map_some, onCells]
theorem sw_size {enc : Nat → Value} {w : World} {blk m : Nat} {dk : Array Nat} {os : Array Obj} : (sortWorld enc w blk 0 m dk os).heap.size = w.heap.size + os.size := by
  simp [sortWorld, putRow, mapBlock, ahead]

theorem sortFunc_ctr : CtrOK Tryz.prog 72 (effC sortR) := by
  refine ⟨⟨_, _, Tryz.func72, rfl, rfl⟩, ?_⟩
  rintro args r args' ⟨l, rfl, hl, rfl, rfl⟩ w Z β vals hvs hwf hargs
  rw [effC_eff] at hargs
  simp only [if_true] at hargs
  obtain ⟨v0, v1, rfl⟩ : ∃ v0 v1, vals = #[v0, v1] := by
    obtain ⟨L⟩ := vals
    match L, hvs with
    | [a, b], _ => exact ⟨a, b, rfl⟩
  have h0 := hargs 0 (by simp)
  have h1 := hargs 1 (by simp)
  simp only [List.getElem_cons_zero, List.getElem_cons_succ] at h0 h1
  replace h0 : ORep Z w.heap β [0] (.own (l.map oints)) v0 := h0
  replace h1 : ORep Z w.heap β [1] (.fn 73 []) v1 := h1
  obtain ⟨cb, rfl, hcb, _⟩ := PRep.fnv (ORep.toP h1 rfl)
  have hcb0 : cb = #[] := by simpa using hcb
  subst hcb0
  generalize hA : AV.own (l.map oints) = A at h0
  cases h0 with
  | pers h => rw [← hA] at h; cases h
  | box => cases hA
  | agg => cases hA
  | tup => cases hA
  | omap => cases hA
  | memo => cases hA
  | rnil => cases hA
  | orec => cases hA
  | oiter => cases hA
  | nil =>
    injection hA with hA
    have hl0 : l = [] := by simpa using hA
    subst hl0
    refine (AnyF.slices_SortFunc_none (P := Tryz.prog) (ρ := sortX_ren) { sortX with } none 0 (.func (.func 73) #[] #[]) w).mono ?_
    rintro e w' ⟨rfl, rfl⟩
    refine ⟨_, Z, fun _ => none, rfl, ⟨rfl, rfl, rfl, Nat.le_refl _, fun _ _ _ => rfl, fun _ _ h => h, fun _ _ h => .inl h, hwf.zh, by simp, by simp⟩, .tup [] #[] rfl (fun k h => absurd h (by simp)), fun i hi => ?_⟩
    have hi0 : i = 0 := by simpa using hi
    subst hi0
    have : sortL [] = [] := by simp [sortL]
    simp only [this]
    exact .nil
  | own l0 b c cs T us hb hz g1 g2 g3 gu g4 gk =>
    injection hA with hA
    subst hA
    have hn : (l.map oints).length = l.length := by simp
    have hlt : b < w.heap.size := (hwf.bo _ _ hb).2
    have hk : ∀ k (h : k < l.length), ORep Z w.heap β [0, k] (oints l[k]) (us k) := fun k h => by
      have := gk k (by simpa using h)
      simpa using this
    have hnb : ∀ k r x, β (0 :: k :: r) = some x → x ≠ b := fun k r x hx e => by
      subst e
      have := hwf.inj _ _ _ hx hb
      simp at this
    rw [hn]
    by_cases h00 : l.length = 0
    · have hl0 : l = [] := List.eq_nil_of_length_eq_zero h00
      subst hl0
      refine (AnyF.slices_SortFunc_none (P := Tryz.prog) (ρ := sortX_ren) { sortX with } (some ⟨b, 0, none⟩) c (.func (.func 73) #[] #[]) w).mono ?_
      rintro e w' ⟨rfl, rfl⟩
      have := sort_left (σ := id) (l' := []) (v1 := .func (.func 73) #[] #[]) hwf hb hz (by simp) g2 g3 (us := us) (l := []) (fun k h => absurd h (by simp)) (fun k h => absurd h (by simp)) rfl (fun k h => absurd h (by simp)) (fun i j h => absurd h (by simp)) (fun k h => absurd h (by simp)) hz rfl (fun k h => absurd h (by simp)) (fun _ _ _ => rfl) (Nat.le_refl _) rfl rfl rfl
      have e0 : sortL [] = [] := by simp [sortL]
      rw [e0]
      exact this
    · let enc : Nat → Value := fun i => if i < l.length then us i else .slice none 0 0
      have hone : OneCell enc := fun i => by
        show (if i < l.length then us i else .slice none 0 0).oneCell' = true
        split
        · rename_i h; exact g4 i (by simpa using h)
        · rfl
      have hencR : ∀ (W : World) (i : Nat), (∀ x, x ≠ b → x < w.heap.size → W.heap[x]? = w.heap[x]?) → w.heap.size ≤ W.heap.size → IS W.heap.size W (enc i) (l.getD i []) := by
        intro W i hW hWs
        show IS W.heap.size W (if i < l.length then us i else .slice none 0 0) (l.getD i [])
        split
        · rename_i h
          have e : l.getD i [] = l[i] := by simp [List.getD, h]
          rw [e]
          exact oints_in (hk i h) fun r x hx => ⟨hW x (hnb _ _ _ hx) (hwf.bo _ _ hx).2, Nat.lt_of_lt_of_le (hwf.bo _ _ hx).2 hWs⟩
        · rename_i h
          have e : l.getD i [] = [] := by simp [List.getD, List.getElem?_eq_none (Nat.le_of_not_lt h)]
          rw [e]
          exact ⟨none, 0, rfl, by simp, by decide, fun h => absurd h (by simp)⟩
      have hd : (Array.range l.length).size = l.length := by simp
      have hget : ∀ j, j < l.length → (Array.range l.length)[j]! = j := fun j hj => by
        rw [getElem!_pos _ j (by simpa using hj)]; simp
      have hH : Holds enc w b 0 (Array.range l.length) := fun j hj => by
        rw [hd] at hj
        rw [hget j hj]
        have he : enc j = us j := if_pos hj
        rw [he, Nat.zero_add]
        exact ⟨cell_heap hz (gu j (by simpa using hj)), by simp [World.frozen?, hz]⟩
      have hcmp : CmpLays1 Tryz.prog 73 #[] enc (fun i j => cmpL (l.getD i []) (l.getD j [])) b 0 (Array.range l.length).size w := by
        intro m os dk _ x y
        have hW1 : ∀ x, x ≠ b → x < w.heap.size → (sortWorld enc w b 0 m dk os).heap[x]? = w.heap[x]? := fun x hx hxl => sw_other hx hxl
        have hW2 : w.heap.size ≤ (sortWorld enc w b 0 m dk os).heap.size := by rw [sw_size]; omega
        refine (compare_any _ _ _ _ _ _ (hencR _ x hW1 hW2) (hencR _ y hW1 hW2)).mono ?_
        rintro e w' ⟨rfl, rfl⟩
        exact ⟨rfl, 0, #[], by rw [grow_empty]; rfl⟩
      have hs := Any.slices_SortFunc sortX enc hone _ (swo_rows l) 73 #[] b 0 c (Array.range l.length) w (run_callFunc' ⟨_, _, Tryz.func73, rfl, rfl⟩) hcmp hH hlt (by simp; omega)
      rw [hd] at hs
      refine Calls.mono hs ?_
      rintro e w' ⟨rfl, d', m, os, ⟨hp1, hp2, hp3⟩, hsd, rfl⟩
      rw [hd] at hp1
      have hp4 : d'.toList.Perm (List.range l.length) := by
        have h5 : d'.extract 0 l.length = d' := by rw [← hp1]; simp
        have h6 : (Array.range l.length).extract 0 l.length = Array.range l.length := by
          have : l.length = (Array.range l.length).size := hd.symm
          conv => lhs; rw [this]
          simp
        rw [h5, h6] at hp3
        simpa using hp3
      have hdn : d'.toList.Nodup := hp4.nodup_iff.2 List.nodup_range
      have hdg : ∀ k (h : k < l.length), d'[k]! = d'.toList[k]'(by simpa [hp1] using h) := fun k h => by
        rw [getElem!_pos _ k (by omega)]; simp
      have hσ : ∀ k, k < l.length → d'[k]! < l.length := fun k h => by
        rw [hdg k h]
        exact List.mem_range.1 (hp4.subset (List.getElem_mem _))
      have hperm : (d'.toList.map fun i => l.getD i []).Perm l := by
        have h5 := hp4.map fun i => l.getD i []
        have h6 : (List.range l.length).map (fun i => l.getD i []) = l := by
          refine List.ext_getElem (by simp) fun i h1 h2 => ?_
          simp [List.getD, h2]
        rw [h6] at h5; exact h5
      have hord : Ord (d'.toList.map fun i => l.getD i []) := by
        refine List.pairwise_iff_getElem.2 fun i j hi hj hij => ?_
        have hi' : i < l.length := by simpa [hp1] using hi
        have hj' : j < l.length := by simpa [hp1] using hj
        have := hsd i j (Nat.zero_le _) hij hj'
        unfold ltOf at this
        rw [cmpL_neg, hdg i hi', hdg j hj'] at this
        simpa using this
      rw [← eq_sortL hord hperm]
      refine sort_left (σ := fun k => d'[k]!) hwf hb hz (by omega) g2 g3 (fun k h => g4 k (by simpa using h)) hk (by simp [hp1]) hσ (fun i j hi hj hij => ?_) (fun k h h' => ?_) (sw_at hz) (by simp [putCells]) (fun k h => ?_) (fun x hx hxl => sw_other hx hxl) (by rw [sw_size]; omega) rfl rfl rfl
      · rw [hdg i hi, hdg j hj] at hij
        rcases Nat.lt_trichotomy i j with h | h | h
        · exact absurd hij (List.pairwise_iff_getElem.1 hdn i j (by simpa [hp1] using hi) (by simpa [hp1] using hj) h)
        · exact h
        · exact absurd hij.symm (List.pairwise_iff_getElem.1 hdn j i (by simpa [hp1] using hj) (by simpa [hp1] using hi) h)
      · have hk2 : k < l.length := by simpa [hp1] using h
        simp only [List.getElem_map]
        rw [← hdg k hk2]
        simp [List.getD, h']
      · have hkc : k < cs.size := by omega
        have he : enc d'[k]! = us d'[k]! := if_pos (hσ k h)
        simp only [putCells, Array.getElem?_mapIdx, Array.getElem?_eq_getElem hkc, Option.map_some, Nat.zero_le, true_and, Nat.zero_add, Nat.sub_zero]
        rw [if_pos (by omega), he]

end Go.Proofs.YtehdfifncbokeaaGreat
