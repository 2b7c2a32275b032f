/- Appending to a list that is read on: both lists are settled behind it. No program in sight. -/
import Derived.Test.YtmhiipmajlmlgaaGrpK
namespace Go.Proofs.Ytmhiipmajlmlgaa
set_option linter.unusedSimpArgs false
set_option linter.unusedVariables false
set_option maxRecDepth 8000
set_option maxHeartbeats 2000000
open Go Go.RowKit AV

section
variable {P : Program} {κ : Con} {o : Oper} {e : Env} {a : Act} {w : World} {Z : Nat → Option Obj} {β : List Nat → Option Nat} {T T2 d : Nat} {x y : Operand}

theorem stay_grow (ho : o.op = .call { callee := .builtin .append, args := #[x, y], argTypes := #[T, T2] }) (hT : slOK P T = true) (hT2 : slOK P T2 = true) (hR : Rep κ Z β e (vals a) w) (l m : List AV) (us1 us2 : Nat → Value)
    (hone1 : ∀ k, k < l.length → (us1 k).oneCell' = true) (hp1 : ∀ k (h : k < l.length), PRep Z l[k] (us1 k)) (hso : SrcOK w (a.eval y) m.length us2) (hp2 : ∀ k (h : k < m.length), PRep Z m[k] (us2 k)) (hlen : l.length + m.length ≤ 1099511627776)
    (base : Option Addr) (cap : Nat) (hx : a.eval x = .slice base l.length cap) (hfc : (Builtin.firstCells 1 l.length (.slice base l.length cap)).run P w.drew = .ok (newsOf l.length us1).toArray w.drew) (hc : cap < l.length + m.length) :
    ∃ u w' β', (execOp a.eval o).run P w = .ok (.value u) w' ∧ Rep κ Z β' ((Wr.set d (.own (l ++ m))).app e) (setV (vals a) d u) w' := by
  obtain ⟨E, i, z, hu, hi, hi1, hi2, hz, hz1⟩ := slOK_spec hT
  obtain ⟨E2, i2, z2, hu2, _, _, _, _, _⟩ := slOK_spec hT2
  have hS := hso.src (P := P) hu2
  have hrun : ∀ v w', (Builtin.append_ #[T, T2] o.type #[a.eval x, a.eval y]).run P w = .ok v w' → (execOp a.eval o).run P w = .ok (.value v) w' := by
    intro v w' hv
    simp [execOp, ho, resolve, invoke, builtin, hv]
  have hkeep := apF_keep none none l.length d [] (by simp) (by simp)
  have hinjF := apF_inj (t1 := none) (t2 := none) (n := l.length) (d := d) (.inl rfl)
  let us : Nat → Value := fun k => if k < l.length then us1 k else us2 (k - l.length)
  have hus : ∀ k, k < (l ++ m).length → (us k).oneCell' = true := by
    intro k hk
    simp only [List.length_append] at hk
    show (if k < l.length then us1 k else us2 (k - l.length)).oneCell' = true
    split
    · exact hone1 k (by assumption)
    · exact hso.one _ (by omega)
  have h48 : ∀ cap, cap < l.length + m.length → Builtin.nextslicecap (l.length + m.length) cap * i.bytes ≤ 281474976710656 := by
    intro cap hc
    refine growslice_fits hc ?_
    have := Nat.mul_le_mul hlen hi2
    omega
  have h63 : ((l.length + m.length : Nat) : Int) ≤ 9223372036854775807 := by omega
  have hg := run_append_grow_src w T T2 o.type E i z hu hi hz base l.length cap (newsOf l.length us1) (by rw [hi1]; exact hfc) (a.eval y) m.length (newsOf m.length us2) (by rw [hi1]; exact hS) hc h63 (h48 cap hc)
  have hge := grownCap_ge w (l.length + m.length) cap E
  have hle := grownCap_le_maxLen w (l.length + m.length) cap E (by unfold maxLen; omega)
  generalize hgc : grownCap w (l.length + m.length) cap E = gc at hg hge hle
  generalize hcs : ((newsOf l.length us1 ++ newsOf m.length us2).toArray ++ Builtin.zeroCells z.cells (gc - (l.length + m.length))) = cs at hg
  have hcsz : cs.size = gc := by
    rw [← hcs]; simp [newsOf, size_zeroCells, cells_one hz1]; omega
  have hck : ∀ k, k < l.length + m.length → cs[k]? = some (us k) := by
    intro k hk
    rw [← hcs]
    rw [Array.getElem?_append_left (by simp [newsOf]; omega)]
    simp only [List.getElem?_toArray]
    by_cases hkl : k < l.length
    · rw [List.getElem?_append_left (by simpa [newsOf] using hkl), newsOf_get hkl]
      simp [us, hkl]
    · rw [List.getElem?_append_right (by simp [newsOf]; omega)]
      simp only [newsOf, List.length_map, List.length_range]
      have := newsOf_get (us := us2) (show k - l.length < m.length by omega)
      simp only [newsOf] at this
      rw [this]
      simp [us, hkl]
  have hori : ORep Z (w.drew.alloc (.cells cs E)).heap (withB (viaF (apF none none l.length d) β) d w.heap.size) [d] (.own (l ++ m)) (.slice (some ⟨w.heap.size, 0, none⟩) (l.length + m.length) gc) := by
    have := ORep.own (Z := Z) (H := (w.drew.alloc (.cells cs E)).heap) (β := withB (viaF (apF none none l.length d) β) d w.heap.size) (p := [d]) (l ++ m) w.heap.size gc cs E us (by simp [withB]) (heap_alloc_new w.drew _) (by simpa using hge) (by omega) hle (fun k hk => hck k (by simpa using hk)) hus (fun k hk => by
      simp only [List.length_append] at hk
      refine .pers ?_
      by_cases hkl : k < l.length
      · rw [List.getElem_append_left hkl]
        show PRep Z l[k] (if k < l.length then us1 k else us2 (k - l.length))
        rw [if_pos hkl]
        exact hp1 k hkl
      · rw [List.getElem_append_right (by omega)]
        show PRep Z m[k - l.length] (if k < l.length then us1 k else us2 (k - l.length))
        rw [if_neg hkl]
        exact hp2 _ (by omega))
    rw [List.length_append] at this
    exact this
  refine ⟨_, _, withB (viaF (apF none none l.length d) β) d w.heap.size, hrun _ _ (by rw [hx]; exact hg), ?_⟩
  have := hR.bigParts (w' := w.drew.alloc (.cells cs E)) [] d (apF none none l.length d) (.own (l ++ m)) (.slice (some ⟨w.heap.size, 0, none⟩) (l.length + m.length) gc) (withB (viaF (apF none none l.length d) β) d w.heap.size) rfl rfl rfl (by show w.heap.size ≤ (w.drew.alloc _).heap.size; simp) (fun b hb => Below.heap_alloc w.drew _ b hb) hkeep (.inr ⟨rfl, by show w.heap.size < (w.drew.alloc _).heap.size; simp⟩) hinjF hori (by simp)
  exact this

theorem stay_room {s : Nat} (hsd : s ≠ d) (ho : o.op = .call { callee := .builtin .append, args := #[x, y], argTypes := #[T, T2] }) (hT : slOK P T = true) (hT2 : slOK P T2 = true) (hR : Rep κ Z β e (vals a) w) (l m : List AV) (us1 us2 : Nat → Value)
    (hone1 : ∀ k, k < l.length → (us1 k).oneCell' = true) (hp1 : ∀ k (h : k < l.length), PRep Z l[k] (us1 k)) (hso : SrcOK w (a.eval y) m.length us2) (hp2 : ∀ k (h : k < m.length), PRep Z m[k] (us2 k))
    {b c : Nat} {cs : Array Value} {Tb : TypeId} (hx : a.eval x = .slice (some ⟨b, 0, none⟩) l.length c) (hb : β [s] = some b) (hzb : w.heap[b]? = some (.cells cs Tb (0, 0))) (hcc : c = cs.size) (hcm : c ≤ maxLen) (hcs : ∀ k, k < l.length → cs[k]? = some (us1 k)) (hroom : l.length + m.length ≤ c) :
    ∃ u w' β' cs', (execOp a.eval o).run P w = .ok (.value u) w' ∧ Rep κ Z β' ((Wr.set d (.own (l ++ m))).app (dropS [s] e)) (setV (vals a) d u) w' ∧ β' [d] = some b ∧ w'.heap[b]? = some (.cells cs' Tb (0, 0)) ∧ ∀ k, k < l.length → cs'[k]? = some (us1 k) := by
  obtain ⟨E, i, z, hu, hi, hi1, hi2, hz, hz1⟩ := slOK_spec hT
  obtain ⟨E2, i2, z2, hu2, _, _, _, _, _⟩ := slOK_spec hT2
  have hS := hso.src (P := P) hu2
  have hrun : ∀ v w', (Builtin.append_ #[T, T2] o.type #[a.eval x, a.eval y]).run P w = .ok v w' → (execOp a.eval o).run P w = .ok (.value v) w' := by
    intro v w' hv
    simp [execOp, ho, resolve, invoke, builtin, hv]
  have hkeep := apF_keep (some s) none l.length d [s] (by simp) (by simp)
  have hinjF := apF_inj (t1 := some s) (t2 := none) (n := l.length) (d := d) (.inr (by simp))
  have hb' : viaF (apF (some s) none l.length d) β [d] = some b := by simp [viaF, apF]; exact hb
  let us : Nat → Value := fun k => if k < l.length then us1 k else us2 (k - l.length)
  have hus : ∀ k, k < (l ++ m).length → (us k).oneCell' = true := by
    intro k hk
    simp only [List.length_append] at hk
    show (if k < l.length then us1 k else us2 (k - l.length)).oneCell' = true
    split
    · exact hone1 k (by assumption)
    · exact hso.one _ (by omega)
  have hcell : ∀ j, j < (newsOf m.length us2).length → l.length * i.size + j < cs.size := by
    intro j hj; simp [newsOf] at hj; rw [hi1]; omega
  have hrm := run_append_room_src w T T2 o.type E i hu hi b 0 l.length c (a.eval y) m.length (newsOf m.length us2) (by rw [hi1]; exact hS) hroom (fun j hj => by
      rw [cell_of_row w b _ cs Tb (0, 0) hzb]
      have := hcell j hj
      rw [show 0 + l.length * i.size + j = l.length * i.size + j by omega]
      simp [this]) (fun j hj => by simp [World.frozen?, hzb])
  rw [hi1] at hrm
  simp only [Nat.mul_one, Nat.zero_add] at hrm
  obtain ⟨cs', g1, g2, g3, g4, g5, g6, g7, g8, g9, g10⟩ := setCells_heap (newsOf m.length us2) l.length w cs hzb (by simp [newsOf]; omega)
  have hck : ∀ k, k < l.length + m.length → cs'[k]? = some (us k) := by
    intro k hk
    by_cases hkl : k < l.length
    · rw [g3 k hkl, hcs k hkl]; simp [us, hkl]
    · have := g4 (k - l.length) (by simp [newsOf]; omega)
      rw [show l.length + (k - l.length) = k by omega] at this
      rw [this, newsOf_get (by omega)]
      simp [us, hkl]
  have hinjV := viaF_inj hinjF hR.inj
  have hori : ORep Z (w.setCells b l.length (newsOf m.length us2)).heap (viaF (apF (some s) none l.length d) β) [d] (.own (l ++ m)) (.slice (some ⟨b, 0, none⟩) (l.length + m.length) c) := by
    have := ORep.own (Z := Z) (H := (w.setCells b l.length (newsOf m.length us2)).heap) (β := viaF (apF (some s) none l.length d) β) (p := [d]) (l ++ m) b c cs' Tb us hb' g1 (by simpa using hroom) (by omega) hcm (fun k hk => hck k (by simpa using hk)) hus (fun k hk => by
      simp only [List.length_append] at hk
      refine .pers ?_
      by_cases hkl : k < l.length
      · rw [List.getElem_append_left hkl]
        show PRep Z l[k] (if k < l.length then us1 k else us2 (k - l.length))
        rw [if_pos hkl]
        exact hp1 k hkl
      · rw [List.getElem_append_right (by omega)]
        show PRep Z m[k - l.length] (if k < l.length then us1 k else us2 (k - l.length))
        rw [if_neg hkl]
        exact hp2 _ (by omega))
    rw [List.length_append] at this
    exact this
  refine ⟨_, _, viaF (apF (some s) none l.length d) β, cs', hrun _ _ (by rw [hx]; exact hrm), ?_, hb', g1, fun k hk => by rw [g3 k hk, hcs k hk]⟩
  rw [← app_set_dropC]
  have hbo := viaF_bo (f := apF (some s) none l.length d) hR.bo
  have hbb := hbo _ _ hb'
  refine hR.big [d, s] d (by simp) _ _ g8 g9 g10 (by rw [g7]; exact Nat.le_refl _) (fun b' hn _ => g6 b' (by rintro rfl; exact hn hbb.1)) (fun _ _ h => h) (fun _ _ h => .inl h)
    (fun b' o' ho' => by rw [g6 b' (by rintro rfl; rw [hbb.2.1] at ho'; cases ho')]; exact hR.zh b' o' ho') (fun r b' hr hn hb2 => ⟨by simp [viaF, hkeep r hr hn, hb2], g6 b' ?_⟩) hinjV (fun p b' hp => by have := hbo p b' hp; rw [g7]; exact this) hori (by simp)
  rintro rfl
  have h1 : viaF (apF (some s) none l.length d) β r = some b' := by simp [viaF, hkeep r hr hn, hb2]
  have := hinjV _ _ _ h1 hb'
  subst this
  simp [root] at hn
end

noncomputable def rdAppS (P : Program) (T T2 d : Nat) (x y : Operand) : Rd := match x, y with
  | .tmp t, .tmp t2 => .peek t fun h => match h with
    | .alias s [] => .get s fun h2 => match h2 with
      | .own l => .get t2 fun v => match v with
        | .own m => .need (slOK P T = true ∧ slOK P T2 = true ∧ allP l = true ∧ allP m = true ∧ viewL l = l ∧ viewL (l ++ m) = l ++ m ∧ l.length + m.length ≤ 1099511627776 ∧ 0 < m.length ∧ s ≠ d) (.ret [.set s (.sh l), .set d (.own (l ++ m)), .mod d [] (.sh (l ++ m))])
        | _ => .fail
      | _ => .fail
    | _ => .fail
  | _, _ => .fail

theorem rdAppS_sound {P : Program} {κ : Con} {o : Oper} {e : Env} {ws : List Wr} {T T2 d : Nat} {x y : Operand} (ho : o.op = .call { callee := .builtin .append, args := #[x, y], argTypes := #[T, T2] }) (hd : o.dst = some d) (hn : (κ.lim.1 ≤ d ∧ d < κ.lim.2)) (h : (rdAppS P T T2 d x y).Wo e ws) : Does P κ o e ws := by
  unfold rdAppS at h
  split at h
  case h_2 => exact h.elim
  rename_i t t2
  obtain ⟨_, h⟩ := h
  cases het : e t with
  | alias s p =>
    simp only [het] at h
    cases p with
    | cons => exact h.elim
    | nil =>
    obtain ⟨_, h⟩ := h
    cases hes : e s with
    | own l =>
      simp only [hes] at h
      obtain ⟨_, h⟩ := h
      cases het2 : e t2 with
      | own m =>
        simp only [het2] at h
        obtain ⟨⟨hT, hT2, hl, hm, hvl, hvm, hlen, hm0, hsd⟩, hw⟩ := h
        have hw' : ws = _ := hw
        subst hw'
        have hsv1 : AV.sh l = view (.own l) := by simp [view, hvl]
        have hsv2 : AV.sh (l ++ m) = view (.own (l ++ m)) := by simp only [view, hvm]
        have e1 : isOwn (.sh l) = false := by rw [hsv1]; exact view_noOwn _
        have e2 : isOwn (.sh (l ++ m)) = false := by rw [hsv2]; exact view_noOwn _
        have hfin : ∀ r, apps [Wr.set s (.sh l), .set d (.own (l ++ m)), .mod d [] (.sh (l ++ m))] e r = if r = d then .sh (l ++ m) else if r = s then .sh l else killV d [] (e r) := by
          intro r
          have e3 : isOwn (.own (l ++ m)) = true := rfl
          simp only [apps, Wr.app, e1, e2, e3, if_true, Bool.false_eq_true, if_false, upd, kill, setP]
          by_cases hrd : r = d
          · simp [hrd]
          · by_cases hrs : r = s
            · simp [hrs, killV, hsd]
            · simp [hrd, hrs]
        refine does_value hd hn fun a w Z β hR => ?_
        have hg0 : getP (e s) [] = some (.own l) := by rw [hes]; rfl
        have hX : ORep Z w.heap β [s] (.own l) (vals a t) := hR.aliasAt het _ hg0 rfl
        have hXs := hR.slot' hes (by simp)
        obtain ⟨us1, hone1, hrep1, hv1⟩ := ORep.row hX
        obtain ⟨us2, hone2, hrep2, hv2⟩ := ORep.row (hR.slot' het2 (by simp))
        have hp1 : ∀ k (h : k < l.length), PRep Z l[k] (us1 k) := fun k hk => ORep.toP (hrep1 k hk) ((allP_iff _).1 hl _ (List.getElem_mem hk))
        have hp2 : ∀ k (h : k < m.length), PRep Z m[k] (us2 k) := fun k hk => ORep.toP (hrep2 k hk) ((allP_iff _).1 hm _ (List.getElem_mem hk))
        have hso : SrcOK w (a.eval (.tmp t2)) m.length us2 := by
          rw [eval_tmp]
          refine ⟨hone2, ?_⟩
          rcases hv2 with ⟨h0, hv⟩ | ⟨b, c, cs, Tb, hv, hb, hz, _, _, _, hus⟩
          · exact .inl ⟨by rw [h0]; rfl, none, 0, hv⟩
          · exact .inr ⟨b, 0, c, hv, fun k hk => cell_heap hz (by simpa using hus k hk)⟩
        have grow : ∀ (base : Option Addr) (cap : Nat), a.eval (.tmp t) = .slice base l.length cap → (Builtin.firstCells 1 l.length (.slice base l.length cap)).run P w.drew = .ok (newsOf l.length us1).toArray w.drew → cap < l.length + m.length →
            ∃ u w' Z' β', (execOp a.eval o).run P w = .ok (.value u) w' ∧ Rep κ Z' β' (apps [Wr.set s (.sh l), .set d (.own (l ++ m)), .mod d [] (.sh (l ++ m))] e) (setV (vals a) d u) w' := by
          intro base cap hx hfc hc
          have hpl := plain_of_own hg0 rfl
          obtain ⟨Z1, β1, hF, hZ1, _, _⟩ := hR.freeze s [] (.own l) hg0 hpl.2 hpl.1 (view_plain _) (view_noOwn _)
          obtain ⟨u, w', β', hrun, hR'⟩ := stay_grow (d := d) ho hT hT2 hF l m us1 us2 hone1 (fun k hk => (hp1 k hk).mono hZ1) hso (fun k hk => (hp2 k hk).mono hZ1) hlen base cap hx hfc hc
          have hle : Le ((Wr.set d (.own (l ++ m))).app ((Wr.mod s [] (view (.own l))).app e)) (apps [Wr.set s (.sh l), .set d (.own (l ++ m)), .mod d [] (.sh (l ++ m))] e) := by
            intro r
            rw [hfin, ← hsv1]
            have e3 : isOwn (.own (l ++ m)) = true := rfl
            simp only [Wr.app, e1, e3, if_true, Bool.false_eq_true, if_false, upd, kill, setP]
            by_cases hrd : r = d
            · right; right; simp [hrd, hsv2]
            · by_cases hrs : r = s
              · right; left; simp [hrs, killV, hsd]
              · right; left; simp [hrd, hrs]
          obtain ⟨Z3, β3, hR3⟩ := hR'.weaken hle
          exact ⟨u, w', Z3, β3, hrun, hR3⟩
        rcases hv1 with ⟨hl0, hx⟩ | ⟨b, c, cs, Tb, hx, hb, hzb, hlc, hcc, hcm, hcs⟩
        · subst hl0
          refine grow none 0 (by rw [eval_tmp, hx]; rfl) ?_ (by simpa using hm0)
          have := run_firstCells_none (P := P) w.drew 1 0 0 0
          simpa [newsOf] using this
        · by_cases hroom : l.length + m.length ≤ c
          · obtain ⟨u, w', β', cs', hrun, hR1, hbd, hzb', hck⟩ := stay_room hsd ho hT hT2 hR l m us1 us2 hone1 hp1 hso hp2 (by rw [eval_tmp, hx]) hb hzb hcc hcm hcs hroom
            have hg1 : getP (((Wr.set d (.own (l ++ m))).app (dropS [s] e)) d) [] = some (.own (l ++ m)) := by
              have e3 : isOwn (.own (l ++ m)) = true := rfl
              simp only [Wr.app, e3, if_true, upd, getP]
            have hpl := plain_of_own hg1 rfl
            obtain ⟨Z2, β2, hR2, hZ2, hZb, _⟩ := hR1.freeze d [] (.own (l ++ m)) hg1 hpl.2 hpl.1 (view_plain _) (view_noOwn _)
            have hz2 : Z2 b = some (.cells cs' Tb (0, 0)) := by rw [hZb [] b (by simpa using hbd), hzb']
            have hP : PRep Z2 (.sh l) (vals a s) := by
              obtain ⟨_, _, _, hvs⟩ := ORep.row hXs
              rcases hvs with ⟨h0, hv⟩ | ⟨b2, c2, cs2, T2', hv, hb2, hz2', _, hcc2, hcm2, _⟩
              · rw [h0, hv]
                exact .nil none 0 (by decide)
              · have : b2 = b := by rw [hb] at hb2; exact (Option.some.inj hb2).symm
                subst this
                rw [hzb] at hz2'
                injection hz2' with hz2'
                injection hz2' with h5
                subst h5
                rw [hv]
                exact .sh l b2 0 c2 cs' Tb (0, 0) us1 hz2 (by omega) hcm2 (fun k hk => by rw [Nat.zero_add]; exact hck k hk) hone1 (fun k hk => (hp1 k hk).mono hZ2)
            have hR3 := hR2.big [s] s (by simp) (.sh l) (vals a s) rfl rfl rfl (Nat.le_refl _) (fun _ _ _ => rfl) (fun _ _ h => h) (fun _ _ h => .inl h) hR2.zh (fun r b _ _ hb => ⟨hb, rfl⟩) hR2.inj hR2.bo (.pers hP) (by simp)
            have hval : setV (setV (vals a) d u) s (vals a s) = setV (vals a) d u := by
              funext r
              unfold setV
              by_cases hrs : r = s
              · simp [hrs, hsd]
              · simp [hrs]
            rw [hval] at hR3
            have hle : Le ((Wr.set s (.sh l)).app (dropS [s] ((Wr.mod d [] (view (.own (l ++ m)))).app ((Wr.set d (.own (l ++ m))).app (dropS [s] e))))) (apps [Wr.set s (.sh l), .set d (.own (l ++ m)), .mod d [] (.sh (l ++ m))] e) := by
              intro r
              rw [hfin, ← hsv2]
              have e3 : isOwn (.own (l ++ m)) = true := rfl
              simp only [Wr.app, e1, e2, e3, if_true, Bool.false_eq_true, if_false, upd, kill, setP, dropS]
              right; left
              by_cases hrd : r = d
              · have : d ≠ s := fun h => hsd h.symm
                simp [hrd, this]
              · by_cases hrs : r = s
                · simp [hrs, hsd]
                · simp [hrd, hrs]
            obtain ⟨Z4, β4, hR4⟩ := hR3.weaken hle
            exact ⟨u, w', Z4, β4, hrun, hR4⟩
          · refine grow (some ⟨b, 0, none⟩) c (by rw [eval_tmp, hx]) ?_ (by omega)
            refine run_firstCells_some w.drew 1 l.length ⟨b, 0, none⟩ l.length c _ (by simp [newsOf]) (fun j v hj => ?_)
            have hjl : j < l.length := by have := (List.getElem?_eq_some_iff.1 hj).1; simpa [newsOf] using this
            rw [newsOf_get hjl] at hj
            injection hj with hj
            subst hj
            have hadd : (⟨b, 0, none⟩ : Addr).add j = ⟨b, j, none⟩ := by unfold Addr.add; split <;> simp_all
            rw [hadd]
            exact cell_heap (w := w.drew) hzb (hcs j hjl)
      | _ => simp only [het2] at h; exact h.elim
    | _ => simp only [hes] at h; exact h.elim
  | _ => simp only [het] at h; exact h.elim

noncomputable def rdGS (P : Program) (Γ : Ctx) (tl : List Nat) (ops : Array Oper) (o : Oper) : Rd := match appOf o with
  | some (T, T2, d, x, y) => rdAppS P T T2 d x y
  | none => rdG P Γ tl ops o

theorem rdGS_sound {P : Program} {κ : Con} {Γ : Ctx} (hΓ : ∀ f c, Γ f = some c → CtrOK P f c) {tl : List Nat} {ops : Array Oper} {o : Oper} {e : Env} {ws : List Wr} (hn : ∀ d, o.dst = some d → (κ.lim.1 ≤ d ∧ d < κ.lim.2)) (h : (rdGS P Γ tl ops o).Wo e ws) : Steps1 P κ ops o e ws := by
  unfold rdGS at h
  split at h
  · rename_i T T2 d x y hm
    obtain ⟨hd, hg, ho⟩ := appOf_spec hm
    intro Q K a w hs hK
    have hw : Region.wanted o (yielded ops a.tmps) = true := by simp [Region.wanted, hg]
    rw [if_pos hw]
    exact .inl (rdAppS_sound ho hd (hn d hd) h Q K a w hs hK)
  · exact rdG_sound hΓ hn h

def wpOpsS (P : Program) (Γ : Ctx) (tl : List Nat) (ops : Array Oper) : List Oper → Env → (Env → Prop) → Prop
  | [], e, K => K e
  | o :: rest, e, K => (rdGS P Γ tl ops o).W e fun ws => wpOpsS P Γ tl ops rest (apps ws e) K

theorem wpOpsS_sound {P : Program} {κ : Con} {Γ : Ctx} (hΓ : ∀ f c, Γ f = some c → CtrOK P f c) {tl : List Nat} {ops : Array Oper} {Q : Exit → Act → World → Prop} {K : Env → Prop} (hK : ∀ e a w, K e → St κ e a w → Q .normal a w) :
    ∀ (l : List Oper) (e : Env) (a : Act) (w : World), dstOK κ.lim l = true → wpOpsS P Γ tl ops l e K → St κ e a w → wpList P ops Q l a w
  | [], e, a, w, _, h, hs => hK e a w h hs
  | o :: rest, e, a, w, hd, h, hs => by
    obtain ⟨ws, hw, h⟩ := Rd.W.wo h
    have hn := dstOK_spec hd (List.mem_cons_self ..)
    have hd' : dstOK κ.lim rest = true := by simp only [dstOK, List.all_cons, Bool.and_eq_true] at hd; exact hd.2
    have := rdGS_sound hΓ hn hw Q (wpList P ops Q rest) a w hs fun a' w' hs' => wpOpsS_sound hΓ hK rest _ a' w' hd' h hs'
    unfold wpList
    exact this

def KOpsS (P : Program) (Γ : Ctx) (tl : List Nat) (ops : Array Oper) (rest : List Oper) (e : Env) (K : Env → Prop) (ws : List Wr) : Prop := wpOpsS P Γ tl ops rest (apps ws e) K
theorem wpOpsS_cons {P : Program} {Γ : Ctx} {tl : List Nat} {ops : Array Oper} {e : Env} {K : Env → Prop} (o : Oper) (rest : List Oper) : wpOpsS P Γ tl ops (o :: rest) e K = (rdGS P Γ tl ops o).W e (KOpsS P Γ tl ops rest e K) := rfl
theorem wpOpsS_nil {P : Program} {Γ : Ctx} {tl : List Nat} {ops : Array Oper} {e : Env} {K : Env → Prop} : wpOpsS P Γ tl ops [] e K = K e := rfl
theorem KOpsS_app {P : Program} {Γ : Ctx} {tl : List Nat} {ops : Array Oper} {e : Env} {K : Env → Prop} (rest : List Oper) (ws : List Wr) : KOpsS P Γ tl ops rest e K ws = wpOpsS P Γ tl ops rest (apps ws e) K := rfl

theorem CW.regS {P : Program} {κ : Con} {Q : QA} {e : Env} {Γ : Ctx} (hΓ : ∀ f c, Γ f = some c → CtrOK P f c) {id : Nat} {ops : List Oper} (hd : dstOK κ.lim ops = true) (h : wpOpsS P Γ [] ops.toArray ops e (Q .normal)) : CW P κ (.region id ops.toArray false) Q e := fun a w hs =>
  wp_region_lit (wpOpsS_sound hΓ (fun e' _ _ hq hs' => ⟨e', hq, hs'⟩) ops e a w hd h hs)

end Go.Proofs.Ytmhiipmajlmlgaa
