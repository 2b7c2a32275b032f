/- What a value means: an abstract value (a number, a list that nobody writes any more, a list that its owner alone knows ..) and how a Go value in memory reads as it. No program in sight, no condition. -/
import Derived.WalkKit
import Derived.Lib.Hide
import Derived.OrdersHeld
import Derived.ArgAppend
import Derived.Deep.AppendSrc
import Derived.Deep.OwnRows
namespace Go.Proofs.Ytechllcflknnlaa
set_option linter.unusedSimpArgs false
set_option linter.unusedVariables false
set_option maxRecDepth 8000
open Go Go.RowKit

/-- Abstract values. sh: a slice whose memory stays as it is; own: a slice that is held here alone; box: a pointer to a struct that is held here alone; pbox, pcell: pointers to memory that stays as it is; alias, addr: what lies at a place that another slot holds, and where it lies. -/
inductive AV where
  | junk
  | num (k : IntKind) (n : Int)
  | bool (b : Bool)
  | sh (l : List AV)
  | own (l : List AV)
  | agg (l : List AV)
  | box (l : List AV)
  | pbox (l : List AV)
  | pcell (v : AV)
  | tup (l : List AV)
  | alias (s : Nat) (p : List Nat)
  | valias (s : Nat) (p : List Nat)
  | addr (s : Nat) (p : List Nat)
  | fn (f : Nat) (l : List AV)
  deriving Inhabited

namespace AV
mutual
/-- Something in it is held here alone. -/
def isOwn : AV → Bool
  | own _ => true
  | box _ => true
  | agg l => anyOwn l
  | tup l => anyOwn l
  | _ => false
def anyOwn : List AV → Bool
  | [] => false
  | a :: l => isOwn a || anyOwn l
end

mutual
/-- It may be copied. -/
def isP : AV → Bool
  | num _ _ => true
  | bool _ => true
  | sh _ => true
  | pbox _ => true
  | pcell _ => true
  | fn _ _ => true
  | agg l => allP l
  | tup l => allP l
  | _ => false
def allP : List AV → Bool
  | [] => true
  | a :: l => isP a && allP l
end

mutual
/-- It names no memory that others may hold. -/
def noSh : AV → Bool
  | num _ _ => true
  | bool _ => true
  | own l => allN l
  | agg l => allN l
  | tup l => allN l
  | box l => allN l
  | _ => false
def allN : List AV → Bool
  | [] => true
  | a :: l => noSh a && allN l
end

mutual
/-- How it reads once nobody writes it any more. -/
def view : AV → AV
  | own l => sh (viewL l)
  | box l => pbox (viewL l)
  | agg l => agg (viewL l)
  | tup l => tup (viewL l)
  | alias _ _ => junk
  | addr _ _ => junk
  | valias _ _ => junk
  | v => v
def viewL : List AV → List AV
  | [] => []
  | a :: l => view a :: viewL l
end

theorem viewL_map (l : List AV) : viewL l = l.map view := by induction l <;> simp_all [viewL]
theorem allP_iff (l : List AV) : allP l = true ↔ ∀ a ∈ l, isP a = true := by induction l <;> simp_all [allP]
theorem allN_iff (l : List AV) : allN l = true ↔ ∀ a ∈ l, noSh a = true := by induction l <;> simp_all [allN]
theorem anyOwn_iff (l : List AV) : anyOwn l = true ↔ ∃ a ∈ l, isOwn a = true := by induction l <;> simp_all [anyOwn]

def kids : AV → Option (List AV)
  | own l => some l
  | box l => some l
  | agg l => some l
  | tup l => some l
  | _ => none

def withKids : AV → List AV → AV
  | own _, l => own l
  | box _, l => box l
  | agg _, l => agg l
  | tup _, l => tup l
  | v, _ => v

def getP : AV → List Nat → Option AV
  | a, [] => some a
  | a, k :: p => match kids a with
    | some l => match l[k]? with
      | some b => getP b p
      | none => none
    | none => none

def setP : AV → List Nat → AV → AV
  | _, [], v => v
  | a, k :: p, v => match kids a with
    | some l => withKids a (l.set k (setP (l.getD k junk) p v))
    | none => a

/-- Its kind alone. -/
def head : AV → AV
  | own _ => own []
  | box _ => box []
  | agg _ => agg []
  | tup _ => tup []
  | v => v
end AV
open AV

/-- A value that stays as it is: Z is the memory that nobody writes any more. -/
inductive PRep (Z : Nat → Option Obj) : AV → Value → Prop
  | junk (v) : PRep Z .junk v
  | num (k n) : PRep Z (.num k n) (.int k n)
  | bool (b) : PRep Z (.bool b) (.bool b)
  | nil (A c) (hc : c ≤ maxLen) : PRep Z (.sh []) (.slice A 0 c)
  | sh (l b o c cs T fz) (us : Nat → Value) (hz : Z b = some (.cells cs T fz)) (h1 : l.length ≤ c) (h2 : c ≤ maxLen) (hu : ∀ k, k < l.length → cs[o + k]? = some (us k)) (h3 : ∀ k, k < l.length → (us k).oneCell' = true)
      (hk : ∀ k (h : k < l.length), PRep Z l[k] (us k)) : PRep Z (.sh l) (.slice (some ⟨b, o, none⟩) l.length c)
  | agg (l) (cs : Array Value) (h1 : cs.size = l.length) (hk : ∀ k (h : k < l.length), PRep Z l[k] (cs.getD k undef)) : PRep Z (.agg l) (.agg cs)
  | tup (l) (cs : Array Value) (h1 : cs.size = l.length) (hk : ∀ k (h : k < l.length), PRep Z l[k] (cs.getD k undef)) : PRep Z (.tup l) (.tuple cs)
  | pbox (l b cs T fz) (hz : Z b = some (.cells cs T fz)) (h1 : cs.size = l.length) (h3 : ∀ k, k < l.length → (cs.getD k undef).oneCell' = true) (hk : ∀ k (h : k < l.length), PRep Z l[k] (cs.getD k undef)) : PRep Z (.pbox l) (.pointer (some ⟨b, 0, none⟩))
  | pcell (v b o cs T fz u) (hz : Z b = some (.cells cs T fz)) (hu : cs[o]? = some u) (h3 : u.oneCell' = true) (hk : PRep Z v u) : PRep Z (.pcell v) (.pointer (some ⟨b, o, none⟩))
  | fn (f l) (cs : Array Value) (h1 : cs.size = l.length) (hk : ∀ k (h : k < l.length), PRep Z l[k] (cs.getD k undef)) : PRep Z (.fn f l) (.func (.func f) #[] cs)

/-- A value, some of whose memory is held at places below p: β tells the block of each place. -/
inductive ORep (Z : Nat → Option Obj) (H : Array Obj) (β : List Nat → Option Nat) : List Nat → AV → Value → Prop
  | pers {p A v} (h : PRep Z A v) : ORep Z H β p A v
  | nil {p} : ORep Z H β p (.own []) (.slice none 0 0)
  | own {p} (l b c cs T) (us : Nat → Value) (hb : β p = some b) (hz : H[b]? = some (.cells cs T (0, 0))) (h1 : l.length ≤ c) (h2 : c = cs.size) (h3 : c ≤ maxLen) (hu : ∀ k, k < l.length → cs[k]? = some (us k)) (h4 : ∀ k, k < l.length → (us k).oneCell' = true)
      (hk : ∀ k (h : k < l.length), ORep Z H β (p ++ [k]) l[k] (us k)) : ORep Z H β p (.own l) (.slice (some ⟨b, 0, none⟩) l.length c)
  | box {p} (l b cs T) (hb : β p = some b) (hz : H[b]? = some (.cells cs T (0, 0))) (h1 : cs.size = l.length) (h4 : ∀ k, k < l.length → (cs.getD k undef).oneCell' = true)
      (hk : ∀ k (h : k < l.length), ORep Z H β (p ++ [k]) l[k] (cs.getD k undef)) : ORep Z H β p (.box l) (.pointer (some ⟨b, 0, none⟩))
  | agg {p} (l) (cs : Array Value) (h1 : cs.size = l.length) (hk : ∀ k (h : k < l.length), ORep Z H β (p ++ [k]) l[k] (cs.getD k undef)) : ORep Z H β p (.agg l) (.agg cs)
  | tup {p} (l) (cs : Array Value) (h1 : cs.size = l.length) (hk : ∀ k (h : k < l.length), ORep Z H β (p ++ [k]) l[k] (cs.getD k undef)) : ORep Z H β p (.tup l) (.tuple cs)

theorem PRep.mono {Z Z' : Nat → Option Obj} (hZ : ∀ b o, Z b = some o → Z' b = some o) {A v} (h : PRep Z A v) : PRep Z' A v := by
  induction h with
  | junk v => exact .junk v
  | num k n => exact .num k n
  | bool b => exact .bool b
  | nil A c hc => exact .nil A c hc
  | sh l b o c cs T fz us hz h1 h2 hu h3 _ ih => exact .sh l b o c cs T fz us (hZ _ _ hz) h1 h2 hu h3 ih
  | agg l cs h1 _ ih => exact .agg l cs h1 ih
  | tup l cs h1 _ ih => exact .tup l cs h1 ih
  | pbox l b cs T fz hz h1 h3 _ ih => exact .pbox l b cs T fz (hZ _ _ hz) h1 h3 ih
  | pcell v b o cs T fz u hz hu h3 _ ih => exact .pcell v b o cs T fz u (hZ _ _ hz) hu h3 ih
  | fn f l cs h1 _ ih => exact .fn f l cs h1 ih

/-- A value is moved to another place, and the world goes on: nothing that it reads has turned. -/
theorem ORep.move {Z Z' : Nat → Option Obj} {H H' : Array Obj} {β β' : List Nat → Option Nat} {p q A v} (h : ORep Z H β p A v) (hZ : ∀ b o, Z b = some o → Z' b = some o)
    (hb : ∀ r b, β (p ++ r) = some b → β' (q ++ r) = some b ∧ H'[b]? = H[b]?) : ORep Z' H' β' q A v := by
  induction h generalizing q with
  | pers h => exact .pers (h.mono hZ)
  | nil => exact .nil
  | @own p l b c cs T us hb0 hz h1 h2 h3 hu h4 _ ih =>
    have h5 := hb [] b (by simpa using hb0)
    refine .own l b c cs T us (by simpa using h5.1) (h5.2.trans hz) h1 h2 h3 hu h4 fun k hk => ih k hk fun r b h => ?_
    simpa using hb (k :: r) b (by simpa using h)
  | @box p l b cs T hb0 hz h1 h4 _ ih =>
    have h5 := hb [] b (by simpa using hb0)
    refine .box l b cs T (by simpa using h5.1) (h5.2.trans hz) h1 h4 fun k hk => ih k hk fun r b h => ?_
    simpa using hb (k :: r) b (by simpa using h)
  | @agg p l cs h1 _ ih =>
    refine .agg l cs h1 fun k hk => ih k hk fun r b h => ?_
    simpa using hb (k :: r) b (by simpa using h)
  | @tup p l cs h1 _ ih =>
    refine .tup l cs h1 fun k hk => ih k hk fun r b h => ?_
    simpa using hb (k :: r) b (by simpa using h)

theorem ORep.toP {Z : Nat → Option Obj} {H : Array Obj} {β : List Nat → Option Nat} {p A v} (h : ORep Z H β p A v) (hA : isP A = true) : PRep Z A v := by
  induction h with
  | pers h => exact h
  | nil => simp [isP] at hA
  | own => simp [isP] at hA
  | box => simp [isP] at hA
  | agg l cs h1 _ ih =>
    simp only [isP, allP_iff] at hA
    exact .agg l cs h1 fun k hk => ih k hk (hA _ (List.getElem_mem hk))
  | tup l cs h1 _ ih =>
    simp only [isP, allP_iff] at hA
    exact .tup l cs h1 fun k hk => ih k hk (hA _ (List.getElem_mem hk))

/-- Once its blocks are written no more, a value reads as its view. -/
theorem ORep.toView {Z Z' : Nat → Option Obj} {H : Array Obj} {β : List Nat → Option Nat} {p A v} (h : ORep Z H β p A v)
    (hb : ∀ r b, β (p ++ r) = some b → Z' b = H[b]?) (hv : ∀ A v, PRep Z A v → PRep Z' (view A) v) : PRep Z' (view A) v := by
  induction h with
  | pers h => exact hv _ _ h
  | nil => simp only [view, viewL]; exact .nil _ _ (by decide)
  | @own p l b c cs T us hb0 hz h1 h2 h3 hu h4 _ ih =>
    have h5 := hb [] b (by simpa using hb0)
    simp only [view, viewL_map]
    have := PRep.sh (Z := Z') (l.map view) b 0 c cs T (0, 0) us (h5.trans hz) (by simpa using h1) h3 (fun k hk => by simpa using hu k (by simpa using hk)) (fun k hk => h4 k (by simpa using hk)) (fun k hk => by
      simp only [List.getElem_map]
      exact ih k (by simpa using hk) fun r b h => by simpa using hb (k :: r) b (by simpa using h))
    simpa using this
  | @box p l b cs T hb0 hz h1 h4 _ ih =>
    have h5 := hb [] b (by simpa using hb0)
    simp only [view, viewL_map]
    exact .pbox (l.map view) b cs T (0, 0) (h5.trans hz) (by simpa using h1) (fun k hk => h4 k (by simpa using hk)) (fun k hk => by
      simp only [List.getElem_map]
      exact ih k (by simpa using hk) fun r b h => by simpa using hb (k :: r) b (by simpa using h))
  | @agg p l cs h1 _ ih =>
    simp only [view, viewL_map]
    exact .agg (l.map view) cs (by simpa using h1) (fun k hk => by
      simp only [List.getElem_map]
      exact ih k (by simpa using hk) fun r b h => by simpa using hb (k :: r) b (by simpa using h))
  | @tup p l cs h1 _ ih =>
    simp only [view, viewL_map]
    exact .tup (l.map view) cs (by simpa using h1) (fun k hk => by
      simp only [List.getElem_map]
      exact ih k (by simpa using hk) fun r b h => by simpa using hb (k :: r) b (by simpa using h))

theorem PRep.view {Z : Nat → Option Obj} {A v} (h : PRep Z A v) : PRep Z (view A) v := by
  induction h with
  | junk v => exact .junk v
  | num k n => exact .num k n
  | bool b => exact .bool b
  | nil A c hc => exact .nil A c hc
  | sh l b o c cs T fz us hz h1 h2 hu h3 hk _ => exact .sh l b o c cs T fz us hz h1 h2 hu h3 hk
  | agg l cs h1 _ ih =>
    simp only [AV.view, viewL_map]
    exact .agg _ cs (by simpa using h1) fun k hk => by simpa using ih k (by simpa using hk)
  | tup l cs h1 _ ih =>
    simp only [AV.view, viewL_map]
    exact .tup _ cs (by simpa using h1) fun k hk => by simpa using ih k (by simpa using hk)
  | pbox l b cs T fz hz h1 h3 hk _ => exact .pbox l b cs T fz hz h1 h3 hk
  | pcell v b o cs T fz u hz hu h3 hk _ => exact .pcell v b o cs T fz u hz hu h3 hk
  | fn f l cs h1 hk _ => exact .fn f l cs h1 hk

theorem ORep.toView' {Z Z' : Nat → Option Obj} {H : Array Obj} {β : List Nat → Option Nat} {p A v} (h : ORep Z H β p A v) (hZ : ∀ b o, Z b = some o → Z' b = some o)
    (hb : ∀ r b, β (p ++ r) = some b → Z' b = H[b]?) : PRep Z' (view A) v :=
  h.toView hb fun _ _ h => (h.mono hZ).view

/-- A value without memory of others reads alike, whatever that memory is. -/
theorem ORep.swap {Z Z' : Nat → Option Obj} {H : Array Obj} {β : List Nat → Option Nat} {p A v} (h : ORep Z H β p A v) (hA : noSh A = true) : ORep Z' H β p A v := by
  induction h with
  | @pers p A v h =>
    refine .pers ?_
    induction h with
    | num k n => exact .num k n
    | bool b => exact .bool b
    | agg l cs h1 _ ih =>
      simp only [noSh, allN_iff] at hA
      exact .agg l cs h1 fun k hk => ih k hk (hA _ (List.getElem_mem hk))
    | tup l cs h1 _ ih =>
      simp only [noSh, allN_iff] at hA
      exact .tup l cs h1 fun k hk => ih k hk (hA _ (List.getElem_mem hk))
    | _ => simp [noSh] at hA
  | nil => exact .nil
  | own l b c cs T us hb0 hz h1 h2 h3 hu h4 _ ih =>
    simp only [noSh, allN_iff] at hA
    exact .own l b c cs T us hb0 hz h1 h2 h3 hu h4 fun k hk => ih k hk (hA _ (List.getElem_mem hk))
  | box l b cs T hb0 hz h1 h4 _ ih =>
    simp only [noSh, allN_iff] at hA
    exact .box l b cs T hb0 hz h1 h4 fun k hk => ih k hk (hA _ (List.getElem_mem hk))
  | agg l cs h1 _ ih =>
    simp only [noSh, allN_iff] at hA
    exact .agg l cs h1 fun k hk => ih k hk (hA _ (List.getElem_mem hk))
  | tup l cs h1 _ ih =>
    simp only [noSh, allN_iff] at hA
    exact .tup l cs h1 fun k hk => ih k hk (hA _ (List.getElem_mem hk))

/-! ### Places -/

/-- The parts of a value, a place each, with what holds them. -/
theorem ORep.kid {Z : Nat → Option Obj} {H : Array Obj} {β : List Nat → Option Nat} {p A v l} (h : ORep Z H β p A v) (hl : kids A = some l) :
    ∃ us : Nat → Value, (∀ k (h : k < l.length), ORep Z H β (p ++ [k]) l[k] (us k)) ∧
      (∀ (Z' : Nat → Option Obj) (H' : Array Obj) (β' : List Nat → Option Nat) (l' : List AV), (∀ b o, Z b = some o → Z' b = some o) → l'.length = l.length →
        (∀ b, β p = some b → β' p = some b ∧ H'[b]? = H[b]?) → (∀ k (h : k < l'.length), ORep Z' H' β' (p ++ [k]) l'[k] (us k)) → ORep Z' H' β' p (withKids A l') v) := by
  cases h with
  | pers h =>
    cases h with
    | agg l cs h1 hk =>
      cases hl
      refine ⟨fun k => cs.getD k undef, fun k h => .pers (hk k h), fun Z' H' β' l' _ hl _ hk' => ?_⟩
      exact .agg l' cs (by omega) hk'
    | tup l cs h1 hk =>
      cases hl
      refine ⟨fun k => cs.getD k undef, fun k h => .pers (hk k h), fun Z' H' β' l' _ hl _ hk' => ?_⟩
      exact .tup l' cs (by omega) hk'
    | _ => cases hl
  | nil =>
    cases hl
    refine ⟨fun _ => undef, fun k h => absurd h (by simp), fun Z' H' β' l' _ hl _ _ => ?_⟩
    have : l' = [] := List.eq_nil_of_length_eq_zero hl
    subst this
    exact .nil
  | own l b c cs T us hb hz h1 h2 h3 hu h4 hk =>
    cases hl
    refine ⟨us, hk, fun Z' H' β' l' _ hl hb' hk' => ?_⟩
    have h5 := hb' b hb
    have := ORep.own (Z := Z') (H := H') (β := β') l' b c cs T us h5.1 (h5.2.trans hz) (by omega) h2 h3 (fun k hk => hu k (by omega)) (fun k hk => h4 k (by omega)) hk'
    rw [hl] at this
    exact this
  | box l b cs T hb hz h1 h4 hk =>
    cases hl
    refine ⟨fun k => cs.getD k undef, hk, fun Z' H' β' l' _ hl hb' hk' => ?_⟩
    have h5 := hb' b hb
    exact .box l' b cs T h5.1 (h5.2.trans hz) (by omega) (fun k hk => h4 k (by omega)) hk'
  | agg l cs h1 hk =>
    cases hl
    exact ⟨fun k => cs.getD k undef, hk, fun Z' H' β' l' _ hl _ hk' => .agg l' cs (by omega) hk'⟩
  | tup l cs h1 hk =>
    cases hl
    exact ⟨fun k => cs.getD k undef, hk, fun Z' H' β' l' _ hl _ hk' => .tup l' cs (by omega) hk'⟩

/-- What lies at a place, and what may be laid there in its stead: the same words in memory, read otherwise. -/
theorem ORep.place {Z : Nat → Option Obj} {H : Array Obj} {β : List Nat → Option Nat} : ∀ (q : List Nat) {p A v B}, ORep Z H β p A v → getP A q = some B →
    ∃ u, ORep Z H β (p ++ q) B u ∧ (∀ (Z' : Nat → Option Obj) (H' : Array Obj) (β' : List Nat → Option Nat) (B' : AV), (∀ b o, Z b = some o → Z' b = some o) →
      (∀ r b, β (p ++ r) = some b → ¬ q <+: r → β' (p ++ r) = some b ∧ H'[b]? = H[b]?) → ORep Z' H' β' (p ++ q) B' u → ORep Z' H' β' p (setP A q B') v)
  | [], p, A, v, B, h, hg => by
    simp only [getP, Option.some.injEq] at hg
    subst hg
    exact ⟨v, by simpa using h, fun Z' H' β' B' _ _ h' => by simpa [setP] using h'⟩
  | k :: q, p, A, v, B, h, hg => by
    simp only [getP] at hg
    split at hg
    · rename_i l hl
      split at hg
      · rename_i a ha
        obtain ⟨hk, rfl⟩ := List.getElem?_eq_some_iff.1 ha
        obtain ⟨us, h1, h2⟩ := h.kid hl
        obtain ⟨u, h3, h4⟩ := ORep.place q (h1 k hk) hg
        refine ⟨u, by simpa using h3, fun Z' H' β' B' hZ hb hB => ?_⟩
        simp only [setP, hl]
        refine h2 Z' H' β' _ hZ (by simp) (fun b hb0 => ?_) (fun j hj => ?_)
        · have := hb [] b (by simpa using hb0) (by simp)
          simpa using this
        · have hj' : j < l.length := by simpa using hj
          by_cases hjk : k = j
          · subst hjk
            have := h4 Z' H' β' B' hZ (fun r b h0 hn => by simpa using hb (k :: r) b (by simpa using h0) (by simpa using hn)) (by simpa using hB)
            simpa [List.getD, List.getElem?_eq_getElem hk] using this
          · rw [List.getElem_set_ne hjk]
            refine (h1 j hj').move hZ fun r b h0 => ?_
            simpa using hb (j :: r) b (by simpa using h0) (by simp [hjk])
      · cases hg
    · cases hg

theorem getP_append (q r : List Nat) : ∀ {A B}, getP A q = some B → getP A (q ++ r) = getP B r := by
  induction q with
  | nil => intro A B h; simp only [getP, Option.some.injEq] at h; subst h; rfl
  | cons k q ih =>
    intro A B h
    simp only [getP] at h
    simp only [List.cons_append, getP]
    cases hl : kids A with
    | none => simp only [hl] at h; cases h
    | some l =>
      simp only [hl] at h ⊢
      cases hb : l[k]? with
      | none => simp only [hb] at h; cases h
      | some b => simp only [hb] at h ⊢; exact ih h

theorem setP_append (q r : List Nat) (v : AV) : ∀ {A B}, getP A q = some B → setP A (q ++ r) v = setP A q (setP B r v) := by
  induction q with
  | nil => intro A B h; simp only [getP, Option.some.injEq] at h; subst h; rfl
  | cons k q ih =>
    intro A B h
    simp only [getP] at h
    simp only [List.cons_append, setP]
    cases hl : kids A with
    | none => simp only [hl] at h; cases h
    | some l =>
      simp only [hl] at h ⊢
      cases hb : l[k]? with
      | none => simp only [hb] at h; cases h
      | some b =>
        simp only [hb] at h
        have : l.getD k junk = b := by simp [List.getD, hb]
        rw [this, ih h]

end Go.Proofs.Ytechllcflknnlaa
