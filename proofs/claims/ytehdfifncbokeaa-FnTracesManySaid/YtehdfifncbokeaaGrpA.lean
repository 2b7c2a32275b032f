/- Plain predicates on memory: how a slice of integers, a slice of rows and an automaton read, and what stays when other blocks change. No condition. -/
import Derived.WalkKit
import Derived.Lib.Hide
import Derived.Deep.QuietTactic
import Derived.BigQuiet
import Derived.Deep.LoopGhost
import Derived.Deep.OwnRows
import Derived.OrdersHeld
import Derived.ArgAppend
import Derived.Deep.AppendSrc
import Derived.Deep.MidRow
namespace Go.Proofs.Ytehdfifncbokeaa
set_option linter.unusedSimpArgs false
set_option linter.unusedVariables false
set_option maxRecDepth 8000
set_option maxHeartbeats 2000000
open Go.RowKit

def nth (l : List Int) (k : Nat) : Int := l.getD k 0
def nthL (l : List (List Int)) (k : Nat) : List Int := l.getD k []

def IS (B : Nat) (w : World) (v : Value) (l : List Int) : Prop :=
  ∃ A c, v = .slice A l.length c ∧ l.length ≤ c ∧ c ≤ maxLen ∧
    (0 < l.length → ∃ b o, A = some ⟨b, o, none⟩ ∧ b < B ∧ ∀ k, k < l.length → w.cell? ⟨b, o + k, none⟩ = some (.int .i64 (nth l k)))

def ISS (B : Nat) (w : World) (v : Value) (ll : List (List Int)) : Prop :=
  ∃ A c, v = .slice A ll.length c ∧ ll.length ≤ c ∧ c ≤ maxLen ∧
    (0 < ll.length → ∃ b o, A = some ⟨b, o, none⟩ ∧ b < B ∧ ∀ k, k < ll.length → ∃ u, w.cell? ⟨b, o + k, none⟩ = some u ∧ IS B w u (nthL ll k))

theorem IS.mono {B B' : Nat} {w : World} {v : Value} {l : List Int} (h : IS B w v l) (hb : B ≤ B') : IS B' w v l := by
  obtain ⟨A, c, hv, h1, h2, h3⟩ := h
  refine ⟨A, c, hv, h1, h2, fun hl => ?_⟩
  obtain ⟨b, o, hA, hlt, hc⟩ := h3 hl
  exact ⟨b, o, hA, by omega, hc⟩

theorem ISS.mono {B B' : Nat} {w : World} {v : Value} {l : List (List Int)} (h : ISS B w v l) (hb : B ≤ B') : ISS B' w v l := by
  obtain ⟨A, c, hv, h1, h2, h3⟩ := h
  refine ⟨A, c, hv, h1, h2, fun hl => ?_⟩
  obtain ⟨b, o, hA, hlt, hc⟩ := h3 hl
  refine ⟨b, o, hA, by omega, fun k hk => ?_⟩
  obtain ⟨u, hu, hi⟩ := hc k hk
  exact ⟨u, hu, hi.mono hb⟩

structure AutoD where
  ends : List Int
  next : List (List Int)

def AutoV (B : Nat) (w : World) (v : Value) (D : AutoD) : Prop := ∃ v0 v1, v = .agg #[v0, v1] ∧ IS B w v0 D.ends ∧ ISS B w v1 D.next

theorem AutoV.mono {B B' : Nat} {w : World} {v : Value} {D : AutoD} (h : AutoV B w v D) (hb : B ≤ B') : AutoV B' w v D := by
  obtain ⟨v0, v1, e, h0, h1⟩ := h
  exact ⟨v0, v1, e, h0.mono hb, h1.mono hb⟩

structure AutoOK (D : AutoD) : Prop where
  lo : 1 ≤ D.ends.length
  hi : D.ends.length ≤ 10
  len : D.next.length = D.ends.length
  ends : ∀ k, k < D.ends.length → 0 ≤ nth D.ends k ∧ nth D.ends k ≤ 15
  rows : ∀ k, k < D.ends.length → (nthL D.next k).length = 12
  sets : ∀ k, k < D.ends.length → ∀ j, j < 12 → 0 ≤ nth (nthL D.next k) j ∧ nth (nthL D.next k) j ≤ 2 ^ D.ends.length - 1

def Blk (w : World) (g : Nat) (t : TypeId) (cs : Array Value) : Prop := w.heap[g]? = some (.cells cs t (0, 0))
section
variable {w w' : World} {g : Nat} {t : TypeId} {cs : Array Value}
theorem Blk.lt (h : Blk w g t cs) : g < w.heap.size := (Array.getElem?_eq_some_iff.1 h).1
theorem Blk.cell (h : Blk w g t cs) (i : Nat) : w.cell? ⟨g, i, none⟩ = cs[i]? := cell_of_row w g i cs t (0, 0) h
theorem Blk.one {a : Value} (h : Blk w g t #[a]) : w.cell? ⟨g, 0, none⟩ = some a := h.cell 0
theorem Blk.frozen (h : Blk w g t cs) (i : Nat) : w.frozen? ⟨g, i, none⟩ = false := by unfold Blk at h; simp [World.frozen?, h]
theorem Blk.new (w : World) (t : TypeId) (cs : Array Value) : Blk (w.alloc (.cells cs t)) w.heap.size t cs := heap_alloc_new w _
theorem Blk.alloc (h : Blk w g t cs) (o : Obj) : Blk (w.alloc o) g t cs := (Below.heap_alloc w o g h.lt).trans h
theorem Blk.drew (h : Blk w g t cs) : Blk w.drew g t cs := h
end

end Go.Proofs.Ytehdfifncbokeaa

namespace Go.Proofs.Ytehdfifncbokeaa
set_option linter.unusedSimpArgs false
set_option linter.unusedVariables false
set_option maxRecDepth 8000
set_option maxHeartbeats 2000000
open Go.RowKit

theorem wrap_nat {a : Nat} (h : a < 9223372036854775808) : IntKind.i64.wrap (a : Int) = a := IntWalk.i64_in _ (by omega)

theorem bvNat (a : Nat) : BitVec.ofInt 64 (a : Int) = BitVec.ofNat 64 a := by simp

theorem bits_and (a b : Nat) (ha : a < 9223372036854775808) : bits .and .i64 (a : Int) (b : Int) = ((a &&& b : Nat) : Int) := by
  have h : (a &&& b) ≤ a := Nat.and_le_left
  have e : (BitVec.ofNat 64 a &&& BitVec.ofNat 64 b).toNat = a &&& b := by
    rw [BitVec.toNat_and, BitVec.toNat_ofNat, BitVec.toNat_ofNat, ← Nat.and_mod_two_pow]
    exact Nat.mod_eq_of_lt (by omega)
  show IntKind.i64.wrap (((BitVec.ofInt 64 (a : Int) &&& BitVec.ofInt 64 (b : Int)).toNat : Nat) : Int) = _
  rw [bvNat, bvNat, e]
  exact wrap_nat (by omega)

theorem bits_or (a b : Nat) (ha : a < 9223372036854775808) (hb : b < 9223372036854775808) : bits .or .i64 (a : Int) (b : Int) = ((a ||| b : Nat) : Int) := by
  have h : (a ||| b) < 2 ^ 63 := Nat.or_lt_two_pow (by simpa using ha) (by simpa using hb)
  have e : (BitVec.ofNat 64 a ||| BitVec.ofNat 64 b).toNat = a ||| b := by
    rw [BitVec.toNat_or, BitVec.toNat_ofNat, BitVec.toNat_ofNat, ← Nat.or_mod_two_pow]
    exact Nat.mod_eq_of_lt (by omega)
  show IntKind.i64.wrap (((BitVec.ofInt 64 (a : Int) ||| BitVec.ofInt 64 (b : Int)).toNat : Nat) : Int) = _
  rw [bvNat, bvNat, e]
  exact wrap_nat (by simpa using h)

theorem bits_xor (a b : Nat) (ha : a < 9223372036854775808) (hb : b < 9223372036854775808) : bits .xor .i64 (a : Int) (b : Int) = ((a ^^^ b : Nat) : Int) := by
  have h : (a ^^^ b) < 2 ^ 63 := Nat.xor_lt_two_pow (by simpa using ha) (by simpa using hb)
  have e : (BitVec.ofNat 64 a ^^^ BitVec.ofNat 64 b).toNat = a ^^^ b := by
    rw [BitVec.toNat_xor, BitVec.toNat_ofNat, BitVec.toNat_ofNat, ← Nat.xor_mod_two_pow]
    exact Nat.mod_eq_of_lt (by omega)
  show IntKind.i64.wrap (((BitVec.ofInt 64 (a : Int) ^^^ BitVec.ofInt 64 (b : Int)).toNat : Nat) : Int) = _
  rw [bvNat, bvNat, e]
  exact wrap_nat (by simpa using h)

def bitN (s k : Nat) : Nat := (s.testBit k).toNat
theorem bitN_eq (s k : Nat) : s / 2 ^ k % 2 = bitN s k := by
  unfold bitN; rw [Nat.toNat_testBit]
theorem bitN_t {s k : Nat} (h : s.testBit k = true) : bitN s k = 1 := by simp [bitN, h]
theorem bitN_f {s k : Nat} (h : s.testBit k = false) : bitN s k = 0 := by simp [bitN, h]
theorem bitN_le (s k : Nat) : bitN s k ≤ 1 := by unfold bitN; cases s.testBit k <;> simp

theorem shr_nat (s k : Nat) : (s : Int) / 2 ^ k = ((s / 2 ^ k : Nat) : Int) := by simp

theorem lt_of_testBit_zero {x n : Nat} (h : x < 2 ^ n) {k : Nat} (hk : n ≤ k) : x.testBit k = false :=
  Nat.testBit_lt_two_pow (Nat.lt_of_lt_of_le h (Nat.pow_le_pow_right (by omega) hk))

end Go.Proofs.Ytehdfifncbokeaa

namespace Go.Proofs.Ytehdfifncbokeaa
set_option linter.unusedSimpArgs false
set_option linter.unusedVariables false
set_option maxRecDepth 8000
set_option maxHeartbeats 2000000
open Go Go.RowKit

inductive AV where
  | junk
  | num (k : IntKind) (n : Int)
  | bool (b : Bool)
  | sh (l : List AV)
  | own (l : List AV)
  | agg (l : List AV)
  | box (l : List AV)
  | pbox (l : List AV)
  | pcell (v : AV)
  | tup (l : List AV)
  | alias (s : Nat) (p : List Nat)
  | valias (s : Nat) (p : List Nat)
  | addr (s : Nat) (p : List Nat)
  | fn (f : Nat) (l : List AV)
  | win (s : Nat) (p : List Nat) (k : Nat)
  | pin (A : AV) (v : Value)
  | omap (ks vs : List AV)
  | pmap (ks vs : List AV)
  | oiter (ks vs : List AV) (seen : List Nat)
  | orec (n : Nat) (l : List AV)
  | srec (n : Nat) (l : List AV)
  | mfn (f : Nat) (l : List AV)
  | memo (f g : List (List Int × Value × Nat × Nat) → List AV)
  deriving Inhabited

namespace AV
mutual
def isOwn : AV → Bool
  | own _ => true
  | box _ => true
  | omap _ _ => true
  | oiter _ _ _ => true
  | memo _ _ => true
  | orec _ _ => true
  | agg l => anyOwn l
  | tup l => anyOwn l
  | _ => false
def anyOwn : List AV → Bool
  | [] => false
  | a :: l => isOwn a || anyOwn l
end

mutual
def isP : AV → Bool
  | num _ _ => true
  | bool _ => true
  | sh _ => true
  | pbox _ => true
  | pcell _ => true
  | fn _ _ => true
  | pin _ _ => true
  | pmap _ _ => true
  | srec _ _ => true
  | mfn _ _ => true
  | agg l => allP l
  | tup l => allP l
  | _ => false
def allP : List AV → Bool
  | [] => true
  | a :: l => isP a && allP l
end

mutual
def noSh : AV → Bool
  | num _ _ => true
  | bool _ => true
  | own l => allN l
  | orec _ l => allN l
  | agg l => allN l
  | tup l => allN l
  | box l => allN l
  | _ => false
def allN : List AV → Bool
  | [] => true
  | a :: l => noSh a && allN l
end

mutual
def view : AV → AV
  | own l => sh (viewL l)
  | orec n l => srec n (viewL l)
  | box l => pbox (viewL l)
  | agg l => agg (viewL l)
  | tup l => tup (viewL l)
  | alias _ _ => junk
  | addr _ _ => junk
  | valias _ _ => junk
  | win _ _ _ => junk
  | omap ks vs => pmap ks vs
  | oiter _ _ _ => junk
  | memo _ _ => junk
  | v => v
def viewL : List AV → List AV
  | [] => []
  | a :: l => view a :: viewL l
end

theorem viewL_map (l : List AV) : viewL l = l.map view := by induction l <;> simp_all [viewL]
theorem allP_iff (l : List AV) : allP l = true ↔ ∀ a ∈ l, isP a = true := by induction l <;> simp_all [allP]
theorem allN_iff (l : List AV) : allN l = true ↔ ∀ a ∈ l, noSh a = true := by induction l <;> simp_all [allN]
theorem anyOwn_iff (l : List AV) : anyOwn l = true ↔ ∃ a ∈ l, isOwn a = true := by induction l <;> simp_all [anyOwn]

def kids : AV → Option (List AV)
  | own l => some l
  | orec _ l => some l
  | box l => some l
  | agg l => some l
  | tup l => some l
  | _ => none

def withKids : AV → List AV → AV
  | own _, l => own l
  | orec n _, l => orec n l
  | box _, l => box l
  | agg _, l => agg l
  | tup _, l => tup l
  | v, _ => v

def getP : AV → List Nat → Option AV
  | a, [] => some a
  | a, k :: p => match kids a with
    | some l => match l[k]? with
      | some b => getP b p
      | none => none
    | none => none

def setP : AV → List Nat → AV → AV
  | _, [], v => v
  | a, k :: p, v => match kids a with
    | some l => withKids a (l.set k (setP (l.getD k junk) p v))
    | none => a

def head : AV → AV
  | own _ => own []
  | orec n _ => orec n []
  | box _ => box []
  | agg _ => agg []
  | tup _ => tup []
  | omap _ _ => omap [] []
  | oiter _ _ _ => oiter [] [] []
  | memo _ _ => memo (fun _ => []) (fun _ => [])
  | v => v
end AV
open AV

inductive PRep (Z : Nat → Option Obj) : AV → Value → Prop
  | junk (v) : PRep Z .junk v
  | num (k n) : PRep Z (.num k n) (.int k n)
  | bool (b) : PRep Z (.bool b) (.bool b)
  | nil (A c) (hc : c ≤ maxLen) : PRep Z (.sh []) (.slice A 0 c)
  | sh (l b o c cs T fz) (us : Nat → Value) (hz : Z b = some (.cells cs T fz)) (h1 : l.length ≤ c) (h2 : c ≤ maxLen) (hu : ∀ k, k < l.length → cs[o + k]? = some (us k)) (h3 : ∀ k, k < l.length → (us k).oneCell' = true)
      (hk : ∀ k (h : k < l.length), PRep Z l[k] (us k)) : PRep Z (.sh l) (.slice (some ⟨b, o, none⟩) l.length c)
  | agg (l) (cs : Array Value) (h1 : cs.size = l.length) (hk : ∀ k (h : k < l.length), PRep Z l[k] (cs.getD k undef)) : PRep Z (.agg l) (.agg cs)
  | tup (l) (cs : Array Value) (h1 : cs.size = l.length) (hk : ∀ k (h : k < l.length), PRep Z l[k] (cs.getD k undef)) : PRep Z (.tup l) (.tuple cs)
  | pbox (l b o cs T) (fz : {x : Nat × Nat // x = (0, 0)}) (hz : Z b = some (.cells cs T fz.1)) (h1 : o + l.length ≤ cs.size) (h3 : ∀ k, k < l.length → (cs.getD (o + k) undef).oneCell' = true) (hk : ∀ k (h : k < l.length), PRep Z l[k] (cs.getD (o + k) undef)) : PRep Z (.pbox l) (.pointer (some ⟨b, o, none⟩))
  | pcell (v b o cs T fz u) (hz : Z b = some (.cells cs T fz)) (hu : cs[o]? = some u) (h3 : u.oneCell' = true) (hk : PRep Z v u) : PRep Z (.pcell v) (.pointer (some ⟨b, o, none⟩))
  | fn (f l) (cs : Array Value) (h1 : cs.size = l.length) (hk : ∀ k (h : k < l.length), PRep Z l[k] (cs.getD k undef)) : PRep Z (.fn f l) (.func (.func f) #[] cs)
  | pmap (ks vs b) (es : Array MapEntry) (kf vf : Nat → Value) (hz : Z b = some (.map es ks.length)) (h1 : es.size = ks.length) (h2 : vs.length = ks.length) (he : ∀ i, i < ks.length → es[i]? = some ⟨kf i, vf i, i⟩)
      (hk : ∀ i (h : i < ks.length), PRep Z ks[i] (kf i)) (hv : ∀ i (h : i < vs.length), PRep Z vs[i] (vf i)) : PRep Z (.pmap ks vs) (.map (some b))
  | pin (A v) (h : PRep Z A v) : PRep Z (.pin A v) v
  | mfn (f l) (cs : Array Value) (h1 : cs.size = l.length) (hk : ∀ k (h : k < l.length), PRep Z l[k] (cs.getD k undef)) : PRep Z (.mfn f l) (.func (.func f) cs #[])
  | rnil (n A c) (hc : c ≤ maxLen) : PRep Z (.srec n []) (.slice A 0 c)
  | srec (n m l b o c cs T) (fz : {x : Nat × Nat // x = (0, 0)}) (us : Nat → Value) (hz : Z b = some (.cells cs T fz.1)) (hl : l.length = m * n) (h1 : m ≤ c) (h2 : c ≤ maxLen) (hu : ∀ k, k < l.length → cs[o + k]? = some (us k)) (h3 : ∀ k, k < l.length → (us k).oneCell' = true)
      (hk : ∀ k (h : k < l.length), PRep Z l[k] (us k)) : PRep Z (.srec n l) (.slice (some ⟨b, o, none⟩) m c)

inductive ORep (Z : Nat → Option Obj) (H : Array Obj) (β : List Nat → Option Nat) : List Nat → AV → Value → Prop
  | pers {p A v} (h : PRep Z A v) : ORep Z H β p A v
  | nil {p} : ORep Z H β p (.own []) (.slice none 0 0)
  | own {p} (l b c cs T) (us : Nat → Value) (hb : β p = some b) (hz : H[b]? = some (.cells cs T (0, 0))) (h1 : l.length ≤ c) (h2 : c = cs.size) (h3 : c ≤ maxLen) (hu : ∀ k, k < l.length → cs[k]? = some (us k)) (h4 : ∀ k, k < l.length → (us k).oneCell' = true)
      (hk : ∀ k (h : k < l.length), ORep Z H β (p ++ [k]) l[k] (us k)) : ORep Z H β p (.own l) (.slice (some ⟨b, 0, none⟩) l.length c)
  | box {p} (l b cs T) (hb : β p = some b) (hz : H[b]? = some (.cells cs T (0, 0))) (h1 : cs.size = l.length) (h4 : ∀ k, k < l.length → (cs.getD k undef).oneCell' = true)
      (hk : ∀ k (h : k < l.length), ORep Z H β (p ++ [k]) l[k] (cs.getD k undef)) : ORep Z H β p (.box l) (.pointer (some ⟨b, 0, none⟩))
  | rnil {p} (n) : ORep Z H β p (.orec n []) (.slice none 0 0)
  | orec {p} (n m l b c cs T) (us : Nat → Value) (hb : β p = some b) (hz : H[b]? = some (.cells cs T (0, 0))) (hl : l.length = m * n) (h1 : m ≤ c) (h2 : c * n = cs.size) (h3 : c ≤ maxLen) (hu : ∀ k, k < l.length → cs[k]? = some (us k)) (h4 : ∀ k, k < l.length → (us k).oneCell' = true)
      (hk : ∀ k (h : k < l.length), ORep Z H β (p ++ [k]) l[k] (us k)) : ORep Z H β p (.orec n l) (.slice (some ⟨b, 0, none⟩) m c)
  | agg {p} (l) (cs : Array Value) (h1 : cs.size = l.length) (hk : ∀ k (h : k < l.length), ORep Z H β (p ++ [k]) l[k] (cs.getD k undef)) : ORep Z H β p (.agg l) (.agg cs)
  | tup {p} (l) (cs : Array Value) (h1 : cs.size = l.length) (hk : ∀ k (h : k < l.length), ORep Z H β (p ++ [k]) l[k] (cs.getD k undef)) : ORep Z H β p (.tup l) (.tuple cs)
  | omap {p} (ks vs : List AV) (b : Nat) (es : Array MapEntry) (kf vf : Nat → Value) (hb : β p = some b) (hz : H[b]? = some (.map es ks.length)) (h1 : es.size = ks.length) (h2 : vs.length = ks.length) (he : ∀ i, i < ks.length → es[i]? = some ⟨kf i, vf i, i⟩)
      (hk : ∀ i (h : i < ks.length), PRep Z ks[i] (kf i)) (hv : ∀ i (h : i < vs.length), PRep Z vs[i] (vf i)) : ORep Z H β p (.omap ks vs) (.map (some b))
  | oiter {p} (ks vs : List AV) (seen : List Nat) (r m : Nat) (es : Array MapEntry) (kf vf : Nat → Value) (hb : β p = some r) (hz : H[r]? = some (.mapIter (some m) ks.length seen.toArray ks.length)) (hm : Z m = some (.map es ks.length)) (h1 : es.size = ks.length) (h2 : vs.length = ks.length)
      (he : ∀ i, i < ks.length → es[i]? = some ⟨kf i, vf i, i⟩) (hk : ∀ i (h : i < ks.length), PRep Z ks[i] (kf i)) (hv : ∀ i (h : i < vs.length), PRep Z vs[i] (vf i)) : ORep Z H β p (.oiter ks vs seen) (.pointer (some ⟨r, 0, none⟩))
  | memo {p} (f g : List (List Int × Value × Nat × Nat) → List AV) (E v) (h : ORep Z H β p (.omap (f E) (g E)) v) : ORep Z H β p (.memo f g) v

theorem PRep.mono {Z Z' : Nat → Option Obj} (hZ : ∀ b o, Z b = some o → Z' b = some o) {A v} (h : PRep Z A v) : PRep Z' A v := by
  induction h with
  | junk v => exact .junk v
  | num k n => exact .num k n
  | bool b => exact .bool b
  | nil A c hc => exact .nil A c hc
  | sh l b o c cs T fz us hz h1 h2 hu h3 _ ih => exact .sh l b o c cs T fz us (hZ _ _ hz) h1 h2 hu h3 ih
  | agg l cs h1 _ ih => exact .agg l cs h1 ih
  | tup l cs h1 _ ih => exact .tup l cs h1 ih
  | pbox l b o cs T fz hz h1 h3 _ ih => exact .pbox l b o cs T fz (hZ _ _ hz) h1 h3 ih
  | mfn f l cs h1 _ ih => exact .mfn f l cs h1 ih
  | rnil n A c hc => exact .rnil n A c hc
  | srec n m l b o c cs T fz us hz hl h1 h2 hu h3 _ ih => exact .srec n m l b o c cs T fz us (hZ _ _ hz) hl h1 h2 hu h3 ih
  | pcell v b o cs T fz u hz hu h3 _ ih => exact .pcell v b o cs T fz u (hZ _ _ hz) hu h3 ih
  | fn f l cs h1 _ ih => exact .fn f l cs h1 ih
  | pin A v _ ih => exact .pin A v ih
  | pmap ks vs b es kf vf hz h1 h2 he _ _ ihk ihv => exact .pmap ks vs b es kf vf (hZ _ _ hz) h1 h2 he ihk ihv

theorem ORep.move {Z Z' : Nat → Option Obj} {H H' : Array Obj} {β β' : List Nat → Option Nat} {p q A v} (h : ORep Z H β p A v) (hZ : ∀ b o, Z b = some o → Z' b = some o)
    (hb : ∀ r b, β (p ++ r) = some b → β' (q ++ r) = some b ∧ H'[b]? = H[b]?) : ORep Z' H' β' q A v := by
  induction h generalizing q with
  | pers h => exact .pers (h.mono hZ)
  | nil => exact .nil
  | @own p l b c cs T us hb0 hz h1 h2 h3 hu h4 _ ih =>
    have h5 := hb [] b (by simpa using hb0)
    refine .own l b c cs T us (by simpa using h5.1) (h5.2.trans hz) h1 h2 h3 hu h4 fun k hk => ih k hk fun r b h => ?_
    simpa using hb (k :: r) b (by simpa using h)
  | rnil n => exact .rnil n
  | @orec p n m l b c cs T us hb0 hz hl h1 h2 h3 hu h4 _ ih =>
    have h5 := hb [] b (by simpa using hb0)
    refine .orec n m l b c cs T us (by simpa using h5.1) (h5.2.trans hz) hl h1 h2 h3 hu h4 fun k hk => ih k hk fun r b h => ?_
    simpa using hb (k :: r) b (by simpa using h)
  | @box p l b cs T hb0 hz h1 h4 _ ih =>
    have h5 := hb [] b (by simpa using hb0)
    refine .box l b cs T (by simpa using h5.1) (h5.2.trans hz) h1 h4 fun k hk => ih k hk fun r b h => ?_
    simpa using hb (k :: r) b (by simpa using h)
  | @agg p l cs h1 _ ih =>
    refine .agg l cs h1 fun k hk => ih k hk fun r b h => ?_
    simpa using hb (k :: r) b (by simpa using h)
  | @tup p l cs h1 _ ih =>
    refine .tup l cs h1 fun k hk => ih k hk fun r b h => ?_
    simpa using hb (k :: r) b (by simpa using h)
  | @omap p ks vs b es kf vf hb0 hz h1 h2 he hk hv =>
    have h5 := hb [] b (by simpa using hb0)
    exact .omap ks vs b es kf vf (by simpa using h5.1) (h5.2.trans hz) h1 h2 he (fun i hi => (hk i hi).mono hZ) fun i hi => (hv i hi).mono hZ
  | @oiter p ks vs seen r m es kf vf hb0 hz hm h1 h2 he hk hv =>
    have h5 := hb [] r (by simpa using hb0)
    exact .oiter ks vs seen r m es kf vf (by simpa using h5.1) (h5.2.trans hz) (hZ _ _ hm) h1 h2 he (fun i hi => (hk i hi).mono hZ) fun i hi => (hv i hi).mono hZ
  | @memo p f g E v _ ih => exact .memo f g E v (ih hb)

theorem ORep.toP {Z : Nat → Option Obj} {H : Array Obj} {β : List Nat → Option Nat} {p A v} (h : ORep Z H β p A v) (hA : isP A = true) : PRep Z A v := by
  induction h with
  | pers h => exact h
  | nil => simp [isP] at hA
  | own => simp [isP] at hA
  | rnil => simp [isP] at hA
  | orec => simp [isP] at hA
  | box => simp [isP] at hA
  | agg l cs h1 _ ih =>
    simp only [isP, allP_iff] at hA
    exact .agg l cs h1 fun k hk => ih k hk (hA _ (List.getElem_mem hk))
  | tup l cs h1 _ ih =>
    simp only [isP, allP_iff] at hA
    exact .tup l cs h1 fun k hk => ih k hk (hA _ (List.getElem_mem hk))
  | omap => simp [isP] at hA
  | oiter => simp [isP] at hA
  | memo => simp [isP] at hA

theorem PRep.view {Z : Nat → Option Obj} {A v} (h : PRep Z A v) : PRep Z (view A) v := by
  induction h with
  | junk v => exact .junk v
  | num k n => exact .num k n
  | bool b => exact .bool b
  | nil A c hc => exact .nil A c hc
  | sh l b o c cs T fz us hz h1 h2 hu h3 hk _ => exact .sh l b o c cs T fz us hz h1 h2 hu h3 hk
  | agg l cs h1 _ ih =>
    simp only [AV.view, viewL_map]
    exact .agg _ cs (by simpa using h1) fun k hk => by simpa using ih k (by simpa using hk)
  | tup l cs h1 _ ih =>
    simp only [AV.view, viewL_map]
    exact .tup _ cs (by simpa using h1) fun k hk => by simpa using ih k (by simpa using hk)
  | pbox l b o cs T fz hz h1 h3 hk _ => exact .pbox l b o cs T fz hz h1 h3 hk
  | mfn f l cs h1 hk _ => exact .mfn f l cs h1 hk
  | rnil n A c hc => exact .rnil n A c hc
  | srec n m l b o c cs T fz us hz hl h1 h2 hu h3 hk _ => exact .srec n m l b o c cs T fz us hz hl h1 h2 hu h3 hk
  | pcell v b o cs T fz u hz hu h3 hk _ => exact .pcell v b o cs T fz u hz hu h3 hk
  | fn f l cs h1 hk _ => exact .fn f l cs h1 hk
  | pin A v h _ => exact .pin A v h
  | pmap ks vs b es kf vf hz h1 h2 he hk hv _ _ => exact .pmap ks vs b es kf vf hz h1 h2 he hk hv

theorem ORep.toView {Z Z' : Nat → Option Obj} {H : Array Obj} {β : List Nat → Option Nat} {p A v} (h : ORep Z H β p A v)
    (hb : ∀ r b, β (p ++ r) = some b → Z' b = H[b]?) (hv : ∀ A v, PRep Z A v → PRep Z' A v) : PRep Z' (view A) v := by
  induction h with
  | pers h => exact (hv _ _ h).view
  | nil => simp only [view, viewL]; exact .nil _ _ (by decide)
  | @own p l b c cs T us hb0 hz h1 h2 h3 hu h4 _ ih =>
    have h5 := hb [] b (by simpa using hb0)
    simp only [view, viewL_map]
    have := PRep.sh (Z := Z') (l.map view) b 0 c cs T (0, 0) us (h5.trans hz) (by simpa using h1) h3 (fun k hk => by simpa using hu k (by simpa using hk)) (fun k hk => h4 k (by simpa using hk)) (fun k hk => by
      simp only [List.getElem_map]
      exact ih k (by simpa using hk) fun r b h => by simpa using hb (k :: r) b (by simpa using h))
    simpa using this
  | rnil n => simp only [view, viewL]; exact .rnil n _ _ (by decide)
  | @orec p n m l b c cs T us hb0 hz hl h1 h2 h3 hu h4 _ ih =>
    have h5 := hb [] b (by simpa using hb0)
    simp only [view, viewL_map]
    exact PRep.srec (Z := Z') n m (l.map view) b 0 c cs T ⟨(0, 0), rfl⟩ us (h5.trans hz) (by simpa using hl) h1 h3 (fun k hk => by simpa using hu k (by simpa using hk)) (fun k hk => h4 k (by simpa using hk)) (fun k hk => by
      simp only [List.getElem_map]
      exact ih k (by simpa using hk) fun r b h => by simpa using hb (k :: r) b (by simpa using h))
  | @box p l b cs T hb0 hz h1 h4 _ ih =>
    have h5 := hb [] b (by simpa using hb0)
    simp only [view, viewL_map]
    exact .pbox (l.map view) b 0 cs T ⟨(0, 0), rfl⟩ (h5.trans hz) (by simp; omega) (fun k hk => by rw [Nat.zero_add]; exact h4 k (by simpa using hk)) (fun k hk => by
      simp only [List.getElem_map, Nat.zero_add]
      exact ih k (by simpa using hk) fun r b h => by simpa using hb (k :: r) b (by simpa using h))
  | @agg p l cs h1 _ ih =>
    simp only [view, viewL_map]
    exact .agg (l.map view) cs (by simpa using h1) (fun k hk => by
      simp only [List.getElem_map]
      exact ih k (by simpa using hk) fun r b h => by simpa using hb (k :: r) b (by simpa using h))
  | @tup p l cs h1 _ ih =>
    simp only [view, viewL_map]
    exact .tup (l.map view) cs (by simpa using h1) (fun k hk => by
      simp only [List.getElem_map]
      exact ih k (by simpa using hk) fun r b h => by simpa using hb (k :: r) b (by simpa using h))
  | @omap p ks vs b es kf vf hb0 hz h1 h2 he hk hv' =>
    have h5 := hb [] b (by simpa using hb0)
    exact .pmap ks vs b es kf vf (h5.trans hz) h1 h2 he (fun i hi => hv _ _ (hk i hi)) fun i hi => hv _ _ (hv' i hi)
  | oiter => exact .junk _
  | memo => exact .junk _

theorem ORep.toView' {Z Z' : Nat → Option Obj} {H : Array Obj} {β : List Nat → Option Nat} {p A v} (h : ORep Z H β p A v) (hZ : ∀ b o, Z b = some o → Z' b = some o)
    (hb : ∀ r b, β (p ++ r) = some b → Z' b = H[b]?) : PRep Z' (view A) v :=
  h.toView hb fun _ _ h => h.mono hZ

theorem ORep.swap {Z Z' : Nat → Option Obj} {H : Array Obj} {β : List Nat → Option Nat} {p A v} (h : ORep Z H β p A v) (hA : noSh A = true) : ORep Z' H β p A v := by
  induction h with
  | @pers p A v h =>
    refine .pers ?_
    induction h with
    | num k n => exact .num k n
    | bool b => exact .bool b
    | agg l cs h1 _ ih =>
      simp only [noSh, allN_iff] at hA
      exact .agg l cs h1 fun k hk => ih k hk (hA _ (List.getElem_mem hk))
    | tup l cs h1 _ ih =>
      simp only [noSh, allN_iff] at hA
      exact .tup l cs h1 fun k hk => ih k hk (hA _ (List.getElem_mem hk))
    | _ => simp [noSh] at hA
  | nil => exact .nil
  | own l b c cs T us hb0 hz h1 h2 h3 hu h4 _ ih =>
    simp only [noSh, allN_iff] at hA
    exact .own l b c cs T us hb0 hz h1 h2 h3 hu h4 fun k hk => ih k hk (hA _ (List.getElem_mem hk))
  | rnil n => exact .rnil n
  | orec n m l b c cs T us hb0 hz hl h1 h2 h3 hu h4 _ ih =>
    simp only [noSh, allN_iff] at hA
    exact .orec n m l b c cs T us hb0 hz hl h1 h2 h3 hu h4 fun k hk => ih k hk (hA _ (List.getElem_mem hk))
  | box l b cs T hb0 hz h1 h4 _ ih =>
    simp only [noSh, allN_iff] at hA
    exact .box l b cs T hb0 hz h1 h4 fun k hk => ih k hk (hA _ (List.getElem_mem hk))
  | agg l cs h1 _ ih =>
    simp only [noSh, allN_iff] at hA
    exact .agg l cs h1 fun k hk => ih k hk (hA _ (List.getElem_mem hk))
  | tup l cs h1 _ ih =>
    simp only [noSh, allN_iff] at hA
    exact .tup l cs h1 fun k hk => ih k hk (hA _ (List.getElem_mem hk))
  | omap => simp [noSh] at hA
  | oiter => simp [noSh] at hA
  | memo => simp [noSh] at hA

theorem ORep.kid {Z : Nat → Option Obj} {H : Array Obj} {β : List Nat → Option Nat} {p A v l} (h : ORep Z H β p A v) (hl : kids A = some l) :
    ∃ us : Nat → Value, (∀ k (h : k < l.length), ORep Z H β (p ++ [k]) l[k] (us k)) ∧
      (∀ (Z' : Nat → Option Obj) (H' : Array Obj) (β' : List Nat → Option Nat) (l' : List AV), (∀ b o, Z b = some o → Z' b = some o) → l'.length = l.length →
        (∀ b, β p = some b → β' p = some b ∧ H'[b]? = H[b]?) → (∀ k (h : k < l'.length), ORep Z' H' β' (p ++ [k]) l'[k] (us k)) → ORep Z' H' β' p (withKids A l') v) := by
  cases h with
  | pers h =>
    cases h with
    | agg l cs h1 hk =>
      cases hl
      refine ⟨fun k => cs.getD k undef, fun k h => .pers (hk k h), fun Z' H' β' l' _ hl _ hk' => ?_⟩
      exact .agg l' cs (by omega) hk'
    | tup l cs h1 hk =>
      cases hl
      refine ⟨fun k => cs.getD k undef, fun k h => .pers (hk k h), fun Z' H' β' l' _ hl _ hk' => ?_⟩
      exact .tup l' cs (by omega) hk'
    | _ => cases hl
  | nil =>
    cases hl
    refine ⟨fun _ => undef, fun k h => absurd h (by simp), fun Z' H' β' l' _ hl _ _ => ?_⟩
    have : l' = [] := List.eq_nil_of_length_eq_zero hl
    subst this
    exact .nil
  | own l b c cs T us hb hz h1 h2 h3 hu h4 hk =>
    cases hl
    refine ⟨us, hk, fun Z' H' β' l' _ hl hb' hk' => ?_⟩
    have h5 := hb' b hb
    have := ORep.own (Z := Z') (H := H') (β := β') l' b c cs T us h5.1 (h5.2.trans hz) (by omega) h2 h3 (fun k hk => hu k (by omega)) (fun k hk => h4 k (by omega)) hk'
    rw [hl] at this
    exact this
  | rnil n =>
    cases hl
    refine ⟨fun _ => undef, fun k h => absurd h (by simp), fun Z' H' β' l' _ hl _ _ => ?_⟩
    have : l' = [] := List.eq_nil_of_length_eq_zero hl
    subst this
    exact .rnil n
  | orec n m l b c cs T us hb hz hlm h1 h2 h3 hu h4 hk =>
    cases hl
    refine ⟨us, hk, fun Z' H' β' l' _ hl _ hk' => ?_⟩
    have h5 := ‹∀ b_1, β p = some b_1 → β' p = some b_1 ∧ H'[b_1]? = H[b_1]?› b hb
    exact ORep.orec (Z := Z') (H := H') (β := β') n m l' b c cs T us h5.1 (h5.2.trans hz) (by omega) h1 h2 h3 (fun k hk => hu k (by omega)) (fun k hk => h4 k (by omega)) hk'
  | box l b cs T hb hz h1 h4 hk =>
    cases hl
    refine ⟨fun k => cs.getD k undef, hk, fun Z' H' β' l' _ hl hb' hk' => ?_⟩
    have h5 := hb' b hb
    exact .box l' b cs T h5.1 (h5.2.trans hz) (by omega) (fun k hk => h4 k (by omega)) hk'
  | agg l cs h1 hk =>
    cases hl
    exact ⟨fun k => cs.getD k undef, hk, fun Z' H' β' l' _ hl _ hk' => .agg l' cs (by omega) hk'⟩
  | tup l cs h1 hk =>
    cases hl
    exact ⟨fun k => cs.getD k undef, hk, fun Z' H' β' l' _ hl _ hk' => .tup l' cs (by omega) hk'⟩
  | omap => cases hl
  | oiter => cases hl
  | memo => cases hl

theorem ORep.place {Z : Nat → Option Obj} {H : Array Obj} {β : List Nat → Option Nat} : ∀ (q : List Nat) {p A v B}, ORep Z H β p A v → getP A q = some B →
    ∃ u, ORep Z H β (p ++ q) B u ∧ (∀ (Z' : Nat → Option Obj) (H' : Array Obj) (β' : List Nat → Option Nat) (B' : AV), (∀ b o, Z b = some o → Z' b = some o) →
      (∀ r b, β (p ++ r) = some b → ¬ q <+: r → β' (p ++ r) = some b ∧ H'[b]? = H[b]?) → ORep Z' H' β' (p ++ q) B' u → ORep Z' H' β' p (setP A q B') v)
  | [], p, A, v, B, h, hg => by
    simp only [getP, Option.some.injEq] at hg
    subst hg
    exact ⟨v, by simpa using h, fun Z' H' β' B' _ _ h' => by simpa [setP] using h'⟩
  | k :: q, p, A, v, B, h, hg => by
    simp only [getP] at hg
    split at hg
    · rename_i l hl
      split at hg
      · rename_i a ha
        obtain ⟨hk, rfl⟩ := List.getElem?_eq_some_iff.1 ha
        obtain ⟨us, h1, h2⟩ := h.kid hl
        obtain ⟨u, h3, h4⟩ := ORep.place q (h1 k hk) hg
        refine ⟨u, by simpa using h3, fun Z' H' β' B' hZ hb hB => ?_⟩
        simp only [setP, hl]
        refine h2 Z' H' β' _ hZ (by simp) (fun b hb0 => ?_) (fun j hj => ?_)
        · have := hb [] b (by simpa using hb0) (by simp)
          simpa using this
        · have hj' : j < l.length := by simpa using hj
          by_cases hjk : k = j
          · subst hjk
            have := h4 Z' H' β' B' hZ (fun r b h0 hn => by simpa using hb (k :: r) b (by simpa using h0) (by simpa using hn)) (by simpa using hB)
            simpa [List.getD, List.getElem?_eq_getElem hk] using this
          · rw [List.getElem_set_ne hjk]
            refine (h1 j hj').move hZ fun r b h0 => ?_
            simpa using hb (j :: r) b (by simpa using h0) (by simp [hjk])
      · cases hg
    · cases hg

theorem getP_append (q r : List Nat) : ∀ {A B}, getP A q = some B → getP A (q ++ r) = getP B r := by
  induction q with
  | nil => intro A B h; simp only [getP, Option.some.injEq] at h; subst h; rfl
  | cons k q ih =>
    intro A B h
    simp only [getP] at h
    simp only [List.cons_append, getP]
    cases hl : kids A with
    | none => simp only [hl] at h; cases h
    | some l =>
      simp only [hl] at h ⊢
      cases hb : l[k]? with
      | none => simp only [hb] at h; cases h
      | some b => simp only [hb] at h ⊢; exact ih h

theorem setP_append (q r : List Nat) (v : AV) : ∀ {A B}, getP A q = some B → setP A (q ++ r) v = setP A q (setP B r v) := by
  induction q with
  | nil => intro A B h; simp only [getP, Option.some.injEq] at h; subst h; rfl
  | cons k q ih =>
    intro A B h
    simp only [getP] at h
    simp only [List.cons_append, setP]
    cases hl : kids A with
    | none => simp only [hl] at h; cases h
    | some l =>
      simp only [hl] at h ⊢
      cases hb : l[k]? with
      | none => simp only [hb] at h; cases h
      | some b =>
        simp only [hb] at h
        have : l.getD k junk = b := by simp [List.getD, hb]
        rw [this, ih h]

end Go.Proofs.Ytehdfifncbokeaa

namespace Go.Proofs.Ytehdfifncbokeaa
set_option linter.unusedSimpArgs false
set_option linter.unusedVariables false
set_option maxRecDepth 8000
set_option maxHeartbeats 2000000
open Go Go.RowKit AV

abbrev Env := Nat → AV
def upd (e : Env) (k : Nat) (v : AV) : Env := fun t => if t = k then v else e t
theorem upd_same (e : Env) (k : Nat) (v : AV) : upd e k v k = v := by simp [upd]
theorem upd_ne (e : Env) (k : Nat) (v : AV) (t : Nat) (h : t ≠ k) : upd e k v t = e t := by simp [upd, h]

def killV (s : Nat) (p : List Nat) : AV → AV
  | .alias s' q => if s' = s ∧ p <+: q then .junk else .alias s' q
  | .valias s' q => if s' = s ∧ p <+: q then .junk else .valias s' q
  | .addr s' q => if s' = s ∧ p <+: q.dropLast then .junk else .addr s' q
  | .win s' q k => if s' = s ∧ p <+: q then .junk else .win s' q k
  | v => v
def kill (s : Nat) (p : List Nat) (e : Env) : Env := fun t => killV s p (e t)

inductive Wr where
  | set (d : Nat) (v : AV)
  | mod (s : Nat) (p : List Nat) (v : AV)

def Wr.app : Wr → Env → Env
  | .set d v, e => if isOwn v then upd (kill d [] e) d v else upd e d v
  | .mod s p v, e => if isOwn v then upd (kill s p e) s (setP (e s) p v) else upd e s (setP (e s) p v)
def apps : List Wr → Env → Env
  | [], e => e
  | x :: l, e => apps l (x.app e)

def InBox (H : Array Obj) (β : List Nat → Option Nat) (p : List Nat) (cs : Array Value) : Prop := ∃ b T, β p = some b ∧ H[b]? = some (.cells cs T (0, 0))

theorem exists_big : ∃ n : Nat, 1099511627776 < n ∧ maxLen < n := ⟨1180591620717411303424, by decide, by decide⟩
noncomputable def bigW : Nat := Classical.choose exists_big
theorem bigW_gt : 1099511627776 < bigW := (Classical.choose_spec exists_big).1
theorem bigW_max : maxLen < bigW := (Classical.choose_spec exists_big).2
theorem bigW_sub (n : Nat) : bigW + n - bigW = n := by omega
theorem bigW_le (n : Nat) : bigW ≤ bigW + n := Nat.le_add_right _ _
noncomputable def dropV (k : Nat) : Value → Value
  | .slice A n c => if k < bigW then .slice (if c = k then A else A.map (·.add k)) (n - k) (c - k) else .slice A (k - bigW) c
  | v => v

def TRep (Z : Nat → Option Obj) (H : Array Obj) (β : List Nat → Option Nat) (e : Env) (t : Nat) (v : Value) : Prop :=
  match e t with
  | .alias s p => ∀ A, getP (e s) p = some A → isOwn A = true → ORep Z H β (s :: p) A v
  | .valias s p => ∀ l, getP (e s) p = some (.box l) → ∃ cs, v = .agg cs ∧ ORep Z H β (s :: p) (.agg l) (.agg cs) ∧ InBox H β (s :: p) cs
  | .addr s p => ∃ q k b, p = q ++ [k] ∧ v = .pointer (some ⟨b, k, none⟩) ∧ (∀ A, getP (e s) q = some A → isOwn A = true → β (s :: q) = some b)
  | .win s p k => ∀ l, getP (e s) p = some (.own l) → ∃ u, ORep Z H β (s :: p) (.own l) u ∧ v = dropV k u
  | A => ORep Z H β [t] A v

structure Con where
  W0 : World
  Z0 : Nat → Option Obj
  O0 : Nat → Prop
  V0 : Nat → Value
  lim : Nat × Nat

def new (κ : Con) (b : Nat) : Prop := κ.O0 b ∨ κ.W0.heap.size ≤ b

structure Rep (κ : Con) (Z : Nat → Option Obj) (β : List Nat → Option Nat) (e : Env) (val : Nat → Value) (w : World) : Prop where
  os : w.os = κ.W0.os
  tape : w.tape = κ.W0.tape
  output : w.output = κ.W0.output
  size : κ.W0.heap.size ≤ w.heap.size
  frame : ∀ b, b < κ.W0.heap.size → ¬ κ.O0 b → w.heap[b]? = κ.W0.heap[b]?
  z0 : ∀ b o, κ.Z0 b = some o → Z b = some o
  zo : ∀ b o, Z b = some o → κ.Z0 b = some o ∨ new κ b
  zh : ∀ b o, Z b = some o → w.heap[b]? = some o
  inj : ∀ p q b, β p = some b → β q = some b → p = q
  bo : ∀ p b, β p = some b → new κ b ∧ Z b = none ∧ b < w.heap.size
  reps : ∀ t, TRep Z w.heap β e t (val t)

def setV (val : Nat → Value) (d : Nat) (u : Value) : Nat → Value := fun t => if t = d then u else val t

theorem PRep.noOwn {Z : Nat → Option Obj} {A v} (h : PRep Z A v) : isOwn A = false := by
  induction h with
  | agg l cs h1 _ ih =>
    cases hh : isOwn (.agg l) with
    | false => rfl
    | true =>
      simp only [isOwn, anyOwn_iff] at hh
      obtain ⟨a, ha, hb⟩ := hh
      obtain ⟨k, hk, rfl⟩ := List.getElem_of_mem ha
      rw [ih k hk] at hb
      cases hb
  | tup l cs h1 _ ih =>
    cases hh : isOwn (.tup l) with
    | false => rfl
    | true =>
      simp only [isOwn, anyOwn_iff] at hh
      obtain ⟨a, ha, hb⟩ := hh
      obtain ⟨k, hk, rfl⟩ := List.getElem_of_mem ha
      rw [ih k hk] at hb
      cases hb
  | _ => rfl

theorem getP_noOwn : ∀ (q : List Nat) {A B : AV}, isOwn A = false → getP A q = some B → isOwn B = false
  | [], A, B, h, hg => by simp only [getP, Option.some.injEq] at hg; exact hg ▸ h
  | k :: q, A, B, h, hg => by
    simp only [getP] at hg
    cases hl : kids A with
    | none => simp only [hl] at hg; cases hg
    | some l =>
      simp only [hl] at hg
      cases hb : l[k]? with
      | none => simp only [hb] at hg; cases hg
      | some b =>
        simp only [hb] at hg
        refine getP_noOwn q ?_ hg
        have hm := List.mem_of_getElem? hb
        cases A <;> simp only [kids, Option.some.injEq, reduceCtorEq] at hl
        · simp [isOwn] at h
        · subst hl
          cases hbb : isOwn b with
          | false => rfl
          | true => rw [isOwn, (anyOwn_iff _).2 ⟨b, hm, hbb⟩] at h; cases h
        · simp [isOwn] at h
        · subst hl
          cases hbb : isOwn b with
          | false => rfl
          | true => rw [isOwn, (anyOwn_iff _).2 ⟨b, hm, hbb⟩] at h; cases h
        · simp [isOwn] at h

theorem getP_junk {q : List Nat} {A : AV} (h : getP .junk q = some A) : A = .junk := by
  cases q with
  | nil => simpa [getP] using h.symm
  | cons k q => simp [getP, kids] at h

def dropS (S : List Nat) (e : Env) : Env := fun t => if t ∈ S then .junk else e t

def root (r : List Nat) : Nat := r.headD 0

theorem Rep.big {κ : Con} {Z Z' : Nat → Option Obj} {β β' : List Nat → Option Nat} {e : Env} {val : Nat → Value} {w w' : World} (h : Rep κ Z β e val w) (S : List Nat) (d : Nat) (hd : d ∈ S) (A : AV) (u : Value)
    (hos : w'.os = w.os) (htape : w'.tape = w.tape) (hout : w'.output = w.output) (hsize : w.heap.size ≤ w'.heap.size) (hframe : ∀ b, ¬ new κ b → b < w.heap.size → w'.heap[b]? = w.heap[b]?)
    (hZ : ∀ b o, Z b = some o → Z' b = some o) (hZo : ∀ b o, Z' b = some o → Z b = some o ∨ new κ b) (hZh : ∀ b o, Z' b = some o → w'.heap[b]? = some o)
    (hf : ∀ r b, r ≠ [] → root r ∉ S → β r = some b → β' r = some b ∧ w'.heap[b]? = w.heap[b]?)
    (hinj : ∀ p q b, β' p = some b → β' q = some b → p = q) (hbo : ∀ p b, β' p = some b → new κ b ∧ Z' b = none ∧ b < w'.heap.size)
    (hA : ORep Z' w'.heap β' [d] A u) (hAv : ∀ s p, A ≠ .alias s p ∧ A ≠ .valias s p ∧ A ≠ .addr s p ∧ ∀ k, A ≠ .win s p k) : Rep κ Z' β' ((Wr.set d A).app (dropS S e)) (setV val d u) w' := by
  refine ⟨hos.trans h.os, htape.trans h.tape, hout.trans h.output, Nat.le_trans h.size hsize, fun b hb hn => ?_, fun b o ho => hZ _ _ (h.z0 b o ho), fun b o ho => ?_, hZh, hinj, hbo, fun t => ?_⟩
  · rw [hframe b (fun hn' => hn'.elim hn (fun h' => by omega)) (Nat.lt_of_lt_of_le hb h.size)]
    exact h.frame b hb hn
  · rcases hZo b o ho with h1 | h1
    · exact h.zo b o h1
    · exact .inr h1
  · -- what slot t is now
    have he : (Wr.set d A).app (dropS S e) t = if t = d then A else if isOwn A then killV d [] (dropS S e t) else dropS S e t := by
      simp only [Wr.app]
      split <;> simp only [upd, kill] <;> split <;> simp_all
    have hplace : ∀ s p B, getP ((Wr.set d A).app (dropS S e) s) p = some B → isOwn B = true → (isOwn A = true → s ≠ d) → s ∉ S ∧ getP (e s) p = some B := by
      intro s p B hg hB hsd
      simp only [Wr.app] at hg
      have key : getP (if s = d then A else dropS S e s) p = some B ∨ getP (if s = d then A else killV d [] (dropS S e s)) p = some B := by
        split at hg <;> simp only [upd, kill] at hg <;> split at hg <;> simp_all
      by_cases hs : s = d
      · subst hs
        simp only [if_true, or_self] at key
        cases hAo : isOwn A with
        | true => exact absurd rfl (hsd hAo)
        | false => rw [getP_noOwn _ hAo key] at hB; cases hB
      · simp only [hs, if_false] at key
        by_cases hS : s ∈ S
        · simp only [dropS, hS, if_true, killV, or_self] at key
          rw [getP_junk key] at hB
          cases hB
        · simp only [dropS, hS, if_false] at key
          refine ⟨hS, ?_⟩
          rcases key with key | key
          · exact key
          · cases hes : e s with
            | alias s' q => rw [hes] at key; simp only [killV] at key; split at key <;> cases p <;> simp_all [getP, kids] <;> subst key <;> simp [isOwn] at hB
            | valias s' q => rw [hes] at key; simp only [killV] at key; split at key <;> cases p <;> simp_all [getP, kids] <;> subst key <;> simp [isOwn] at hB
            | addr s' q => rw [hes] at key; simp only [killV] at key; split at key <;> cases p <;> simp_all [getP, kids] <;> subst key <;> simp [isOwn] at hB
            | win s' q k' => rw [hes] at key; simp only [killV] at key; split at key <;> cases p <;> simp_all [getP, kids] <;> subst key <;> simp [isOwn] at hB
            | _ => rw [hes] at key; exact key
    have hmv : ∀ s p B v, s ∉ S → ORep Z w.heap β (s :: p) B v → ORep Z' w'.heap β' (s :: p) B v := fun s p B v hs hB =>
      hB.move hZ fun r b hr => hf _ b (by simp) (by simpa [root] using hs) hr
    unfold TRep
    rw [he]
    by_cases htd : t = d
    · subst htd
      simp only [if_true, setV]
      have := hAv
      cases A with
      | alias s p => exact absurd rfl (this s p).1
      | valias s p => exact absurd rfl (this s p).2.1
      | addr s p => exact absurd rfl (this s p).2.2.1
      | win s p k => exact absurd rfl ((this s p).2.2.2 k)
      | _ => exact hA
    · simp only [htd, if_false, setV]
      by_cases htS : t ∈ S
      · have : (if isOwn A = true then killV d [] (dropS S e t) else dropS S e t) = .junk := by simp [dropS, htS, killV]
        rw [this]
        exact .pers (.junk _)
      · have hd' : dropS S e t = e t := by simp [dropS, htS]
        rw [hd']
        have ht := h.reps t
        unfold TRep at ht
        have hplace' := hplace
        cases het : e t with
        | alias s p =>
          rw [het] at ht
          have : (if isOwn A = true then killV d [] (.alias s p) else .alias s p) = .junk ∨ ((if isOwn A = true then killV d [] (.alias s p) else .alias s p) = .alias s p ∧ (isOwn A = true → s ≠ d)) := by
            by_cases hAo : isOwn A = true
            · simp only [hAo, if_true, killV, List.nil_prefix, and_true]
              by_cases hs : s = d <;> simp [hs]
            · simp [hAo]
          rcases this with h1 | ⟨h1, h2⟩
          · rw [h1]; exact .pers (.junk _)
          · rw [h1]
            intro B hg hB
            obtain ⟨hs, hg'⟩ := hplace s p B hg hB h2
            exact hmv s p B _ hs (ht B hg' hB)
        | valias s p =>
          rw [het] at ht
          have : (if isOwn A = true then killV d [] (.valias s p) else .valias s p) = .junk ∨ ((if isOwn A = true then killV d [] (.valias s p) else .valias s p) = .valias s p ∧ (isOwn A = true → s ≠ d)) := by
            by_cases hAo : isOwn A = true
            · simp only [hAo, if_true, killV, List.nil_prefix, and_true]
              by_cases hs : s = d <;> simp [hs]
            · simp [hAo]
          rcases this with h1 | ⟨h1, h2⟩
          · rw [h1]; exact .pers (.junk _)
          · rw [h1]
            intro l hg
            obtain ⟨hs, hg'⟩ := hplace s p _ hg rfl h2
            obtain ⟨cs, hv, hr, b, T, hb, hz⟩ := ht l hg'
            have h5 := hf (s :: p) b (by simp) (by simpa [root] using hs) hb
            exact ⟨cs, hv, hmv s p _ _ hs hr, b, T, h5.1, h5.2.trans hz⟩
        | addr s p =>
          rw [het] at ht
          have : (if isOwn A = true then killV d [] (.addr s p) else .addr s p) = .junk ∨ ((if isOwn A = true then killV d [] (.addr s p) else .addr s p) = .addr s p ∧ (isOwn A = true → s ≠ d)) := by
            by_cases hAo : isOwn A = true
            · simp only [hAo, if_true, killV, List.nil_prefix, and_true]
              by_cases hs : s = d <;> simp [hs]
            · simp [hAo]
          rcases this with h1 | ⟨h1, h2⟩
          · rw [h1]; exact .pers (.junk _)
          · rw [h1]
            obtain ⟨q, k, b, hp, hv, hb⟩ := ht
            refine ⟨q, k, b, hp, hv, fun B hg hB => ?_⟩
            obtain ⟨hs, hg'⟩ := hplace s q B hg hB h2
            exact (hf _ b (by simp) (by simpa [root] using hs) (hb B hg' hB)).1
        | win s p k =>
          rw [het] at ht
          have : (if isOwn A = true then killV d [] (.win s p k) else .win s p k) = .junk ∨ ((if isOwn A = true then killV d [] (.win s p k) else .win s p k) = .win s p k ∧ (isOwn A = true → s ≠ d)) := by
            by_cases hAo : isOwn A = true
            · simp only [hAo, if_true, killV, List.nil_prefix, and_true]
              by_cases hs : s = d <;> simp [hs]
            · simp [hAo]
          rcases this with h1 | ⟨h1, h2⟩
          · rw [h1]; exact .pers (.junk _)
          · rw [h1]
            intro l hg
            obtain ⟨hs, hg'⟩ := hplace s p _ hg rfl h2
            obtain ⟨u, hu, hv⟩ := ht l hg'
            exact ⟨u, hmv s p _ _ hs hu, hv⟩
        | _ =>
          rw [het] at ht
          have : ∀ x : AV, (∀ s p, x ≠ .alias s p ∧ x ≠ .valias s p ∧ x ≠ .addr s p ∧ ∀ k, x ≠ .win s p k) → (if isOwn A = true then killV d [] x else x) = x := by
            intro x hx
            split
            · have := hx
              cases x <;> first | rfl | exact absurd rfl (hx _ _).1 | exact absurd rfl (hx _ _).2.1 | exact absurd rfl (hx _ _).2.2.1 | exact absurd rfl ((hx _ _).2.2.2 _)
            · rfl
          rw [this _ (by simp)]
          exact hmv t [] _ _ htS ht

theorem kids_withKids {A : AV} {l l' : List AV} (h : kids A = some l) : kids (withKids A l') = some l' := by
  cases A <;> simp [kids] at h <;> rfl

theorem getP_cons {A : AV} {l : List AV} {k : Nat} {q : List Nat} (h : kids A = some l) : getP A (k :: q) = (l[k]?).bind fun b => getP b q := by
  simp only [getP, h]
  cases l[k]? <;> rfl

theorem getP_set_self (r : List Nat) (B' : AV) : ∀ (p : List Nat) {A B : AV}, getP A p = some B → getP (setP A p B') (p ++ r) = getP B' r
  | [], A, B, _ => by simp [setP]
  | k :: p, A, B, h => by
    cases hl : kids A with
    | none => simp [getP, hl] at h
    | some l =>
      rw [getP_cons hl] at h
      cases hb : l[k]? with
      | none => simp [hb] at h
      | some b =>
        simp only [hb, Option.bind_some] at h
        obtain ⟨hk, rfl⟩ := List.getElem?_eq_some_iff.1 hb
        simp only [setP, hl, List.cons_append]
        rw [getP_cons (kids_withKids hl)]
        simp only [List.getElem?_set_self hk, Option.bind_some, List.getD, hb, Option.getD_some]
        exact getP_set_self r B' p h

theorem getP_set_up (B' : AV) (r : List Nat) : ∀ (q : List Nat) {A B C : AV}, getP A (q ++ r) = some B → getP A q = some C → getP (setP A (q ++ r) B') q = some (setP C r B')
  | [], A, B, C, _, hc => by
    simp only [getP, Option.some.injEq] at hc
    subst hc
    simp [getP]
  | k :: q, A, B, C, h, hc => by
    cases hl : kids A with
    | none => simp [getP, hl] at h
    | some l =>
      rw [List.cons_append, getP_cons hl] at h
      rw [getP_cons hl] at hc
      cases hb : l[k]? with
      | none => simp [hb] at h
      | some b =>
        simp only [hb, Option.bind_some] at h hc
        obtain ⟨hk, rfl⟩ := List.getElem?_eq_some_iff.1 hb
        simp only [setP, hl, List.cons_append]
        rw [getP_cons (kids_withKids hl)]
        simp only [List.getElem?_set_self hk, Option.bind_some, List.getD, hb, Option.getD_some]
        exact getP_set_up B' r q h hc

theorem getP_set_apart (B' : AV) : ∀ (p q : List Nat) {A : AV}, ¬ p <+: q → ¬ q <+: p → getP (setP A p B') q = getP A q
  | [], q, A, h, _ => absurd (List.nil_prefix) h
  | _ :: _, [], A, _, h => absurd (List.nil_prefix) h
  | k :: p, j :: q, A, h1, h2 => by
    cases hl : kids A with
    | none => simp [setP, hl]
    | some l =>
      simp only [setP, hl]
      rw [getP_cons (kids_withKids hl), getP_cons hl]
      by_cases hkj : k = j
      · subst hkj
        by_cases hk : k < l.length
        · simp only [List.getElem?_set_self hk, Option.bind_some, List.getD, List.getElem?_eq_getElem hk, Option.getD_some]
          exact getP_set_apart B' p q (by simpa using h1) (by simpa using h2)
        · rw [List.getElem?_eq_none (l := l.set k _) (by simpa using Nat.le_of_not_lt hk), List.getElem?_eq_none (Nat.le_of_not_lt hk)]
      · rw [List.getElem?_set_ne hkj]

theorem killV_getP {s : Nat} {p q : List Nat} {x B : AV} (h : getP (killV s p x) q = some B) (hB : isOwn B = true) : getP x q = some B := by
  cases x with
  | alias s' q' => simp only [killV] at h; split at h <;> cases q <;> simp_all [getP, kids] <;> subst h <;> simp [isOwn] at hB
  | valias s' q' => simp only [killV] at h; split at h <;> cases q <;> simp_all [getP, kids] <;> subst h <;> simp [isOwn] at hB
  | addr s' q' => simp only [killV] at h; split at h <;> cases q <;> simp_all [getP, kids] <;> subst h <;> simp [isOwn] at hB
  | win s' q' k' => simp only [killV] at h; split at h <;> cases q <;> simp_all [getP, kids] <;> subst h <;> simp [isOwn] at hB
  | _ => exact h

theorem killV_same {s : Nat} {p : List Nat} {x : AV} (hx : ∀ s p, x ≠ .alias s p ∧ x ≠ .valias s p ∧ x ≠ .addr s p ∧ ∀ k, x ≠ .win s p k) : killV s p x = x := by
  cases x <;> first | rfl | exact absurd rfl (hx _ _).1 | exact absurd rfl (hx _ _).2.1 | exact absurd rfl (hx _ _).2.2.1 | exact absurd rfl ((hx _ _).2.2.2 _)

theorem getP_up : ∀ (q r : List Nat) {X Y : AV}, getP X (q ++ r) = some Y → ∃ C, getP X q = some C ∧ getP C r = some Y
  | [], r, X, Y, h => ⟨X, rfl, h⟩
  | k :: q, r, X, Y, h => by
    cases hl : kids X with
    | none => simp [getP, hl] at h
    | some l =>
      rw [List.cons_append, getP_cons hl] at h
      rw [getP_cons hl]
      cases hb : l[k]? with
      | none => simp [hb] at h
      | some b => simp only [hb, Option.bind_some] at h ⊢; exact getP_up q r h

theorem setP_noOwn {A' : AV} (hA' : isOwn A' = false) : ∀ (r : List Nat) {C : AV}, isOwn C = false → isOwn (setP C r A') = false
  | [], C, _ => by simpa [setP] using hA'
  | k :: r, C, hc => by
    cases hl : kids C with
    | none => simpa [setP, hl] using hc
    | some l =>
      simp only [setP, hl]
      have hany : anyOwn l = false → anyOwn (l.set k (setP (l.getD k .junk) r A')) = false := by
        intro hl'
        cases hh : anyOwn (l.set k (setP (l.getD k .junk) r A')) with
        | false => rfl
        | true =>
          obtain ⟨a, ha, hao⟩ := (anyOwn_iff _).1 hh
          rcases List.mem_or_eq_of_mem_set ha with h5 | h5
          · rw [(anyOwn_iff _).2 ⟨a, h5, hao⟩] at hl'; cases hl'
          · subst h5
            have : isOwn (l.getD k .junk) = false := by
              cases h6 : isOwn (l.getD k .junk) with
              | false => rfl
              | true =>
                by_cases hk : k < l.length
                · rw [(anyOwn_iff _).2 ⟨l.getD k .junk, by simp [List.getD, List.getElem?_eq_getElem hk], h6⟩] at hl'; cases hl'
                · simp [List.getD, List.getElem?_eq_none (Nat.le_of_not_lt hk), isOwn] at h6
            rw [setP_noOwn hA' r this] at hao
            cases hao
      cases C <;> simp only [kids, Option.some.injEq, reduceCtorEq] at hl
      · simp [isOwn] at hc
      · subst hl; simpa [withKids, isOwn] using hany (by simpa [isOwn] using hc)
      · simp [isOwn] at hc
      · subst hl; simpa [withKids, isOwn] using hany (by simpa [isOwn] using hc)
      · simp [isOwn] at hc

theorem setP_plain {A' : AV} (hA' : ∀ s' p', A' ≠ .alias s' p' ∧ A' ≠ .valias s' p' ∧ A' ≠ .addr s' p' ∧ ∀ k, A' ≠ .win s' p' k) {X B : AV} : ∀ {p : List Nat}, getP X p = some B → ∀ s' p', setP X p A' ≠ .alias s' p' ∧ setP X p A' ≠ .valias s' p' ∧ setP X p A' ≠ .addr s' p' ∧ ∀ k, setP X p A' ≠ .win s' p' k
  | [], _, s', p' => by simpa [setP] using hA' s' p'
  | k :: p, hg, s', p' => by
    cases hl : kids X with
    | none => simp [getP, hl] at hg
    | some l =>
      simp only [setP, hl]
      generalize l.set k (setP (l.getD k .junk) p A') = l2
      cases X <;> simp_all [kids, withKids]

theorem setP_box {l0 l : List AV} {r : List Nat} {A' : AV} (hr : r ≠ []) (h : setP (.box l0) r A' = .box l) : setP (.agg l0) r A' = .agg l := by
  cases r with
  | nil => exact absurd rfl hr
  | cons k r => simp only [setP, kids, withKids, AV.box.injEq] at h ⊢; rw [h]

theorem getP_agg {l0 : List AV} {r : List Nat} {B : AV} (hr : r ≠ []) (h : getP (.box l0) r = some B) : getP (.agg l0) r = some B := by
  cases r with
  | nil => exact absurd rfl hr
  | cons k r => simpa only [getP, kids] using h

theorem setP_isBox {C A' : AV} {r : List Nat} {l : List AV} (hr : r ≠ []) (h : setP C r A' = .box l) : ∃ l0, C = .box l0 := by
  cases r with
  | nil => exact absurd rfl hr
  | cons k r => cases C <;> simp_all [setP, kids, withKids]

theorem setP_isOwnL {C A' : AV} {r : List Nat} {l : List AV} (hr : r ≠ []) (h : setP C r A' = .own l) : ∃ l0, C = .own l0 := by
  cases r with
  | nil => exact absurd rfl hr
  | cons k r => cases C <;> simp_all [setP, kids, withKids]

set_option maxHeartbeats 1000000 in
theorem Rep.mod {κ : Con} {Z Z' : Nat → Option Obj} {β β' : List Nat → Option Nat} {e : Env} {val : Nat → Value} {w w' : World} (h : Rep κ Z β e val w) (s : Nat) (p : List Nat) (A A' : AV) (hg : getP (e s) p = some A)
    (hs : ∀ s' p', e s ≠ .alias s' p' ∧ e s ≠ .valias s' p' ∧ e s ≠ .addr s' p' ∧ ∀ k, e s ≠ .win s' p' k) (hs' : ∀ s' p', A' ≠ .alias s' p' ∧ A' ≠ .valias s' p' ∧ A' ≠ .addr s' p' ∧ ∀ k, A' ≠ .win s' p' k) (hsj : e s ≠ .junk)
    (hos : w'.os = w.os) (htape : w'.tape = w.tape) (hout : w'.output = w.output) (hsize : w.heap.size ≤ w'.heap.size) (hframe : ∀ b, ¬ new κ b → b < w.heap.size → w'.heap[b]? = w.heap[b]?)
    (hZ : ∀ b o, Z b = some o → Z' b = some o) (hZo : ∀ b o, Z' b = some o → Z b = some o ∨ new κ b) (hZh : ∀ b o, Z' b = some o → w'.heap[b]? = some o)
    (hf : ∀ r b, r ≠ [] → e (root r) ≠ .junk → ¬ (s :: p) <+: r → β r = some b → β' r = some b ∧ w'.heap[b]? = w.heap[b]?)
    (hinj : ∀ p q b, β' p = some b → β' q = some b → p = q) (hbo : ∀ p b, β' p = some b → new κ b ∧ Z' b = none ∧ b < w'.heap.size)
    (hr : ∀ u, ORep Z w.heap β (s :: p) A u → ORep Z' w'.heap β' (s :: p) A' u)
    (hC : isOwn A' = true → ∀ q C, q <+: p → q ≠ p → getP (e s) q = some C → isOwn C = true) : Rep κ Z' β' ((Wr.mod s p A').app e) val w' := by
  refine ⟨hos.trans h.os, htape.trans h.tape, hout.trans h.output, Nat.le_trans h.size hsize, fun b hb hn => ?_, fun b o ho => hZ _ _ (h.z0 b o ho), fun b o ho => ?_, hZh, hinj, hbo, fun t => ?_⟩
  · rw [hframe b (fun hn' => hn'.elim hn (fun h' => by omega)) (Nat.lt_of_lt_of_le hb h.size)]
    exact h.frame b hb hn
  · rcases hZo b o ho with h1 | h1
    · exact h.zo b o h1
    · exact .inr h1
  · have he : ∀ t, (Wr.mod s p A').app e t = if t = s then setP (e s) p A' else if isOwn A' then killV s p (e t) else e t := by
      intro t
      simp only [Wr.app]
      cases isOwn A' <;> simp [upd, kill]
    have hes : (Wr.mod s p A').app e s = setP (e s) p A' := by rw [he]; simp
    have hmv : ∀ s2 q B v, s2 ≠ s → e s2 ≠ .junk → ORep Z w.heap β (s2 :: q) B v → ORep Z' w'.heap β' (s2 :: q) B v := fun s2 q B v hne hj hB =>
      hB.move hZ fun r b hr => hf _ b (by simp) (by simpa [root] using hj) (by simp [Ne.symm hne]) hr
    have hof : ∀ s2 q B, s2 ≠ s → getP ((Wr.mod s p A').app e s2) q = some B → isOwn B = true → e s2 ≠ .junk ∧ getP (e s2) q = some B := by
      intro s2 q B hne hq hB
      rw [he, if_neg hne] at hq
      have hq' : getP (e s2) q = some B := by
        split at hq
        · exact killV_getP hq hB
        · exact hq
      refine ⟨fun hj => ?_, hq'⟩
      rw [hj] at hq'
      rw [getP_junk hq'] at hB
      cases hB
    have mvUp : ∀ q r C v, p = q ++ r → getP C r = some A → ORep Z w.heap β (s :: q) C v → ORep Z' w'.heap β' (s :: q) (setP C r A') v := by
      intro q r C v hp hgr hv
      subst hp
      obtain ⟨u, hu, hw⟩ := ORep.place r hv hgr
      refine hw Z' w'.heap β' A' hZ (fun r' b hb hn => ?_) (by simpa using hr u (by simpa using hu))
      exact hf _ b (by simp) (by simpa [root] using hsj) (by simpa [List.prefix_append_right_inj] using hn) hb
    have mvAp : ∀ q C v, ¬ p <+: q → ¬ q <+: p → ORep Z w.heap β (s :: q) C v → ORep Z' w'.heap β' (s :: q) C v := by
      intro q C v h1 h2 hv
      refine hv.move hZ fun r b hb => hf _ b (by simp) (by simpa [root] using hsj) (fun hpre => ?_) hb
      have hpre' : p <+: q ++ r := by simpa using hpre
      rcases List.prefix_or_prefix_of_prefix hpre' (List.prefix_append q r) with h3 | h3
      · exact h1 h3
      · exact h2 h3
    have hap : ∀ q B, getP (setP (e s) p A') q = some B → isOwn B = true → ¬ (isOwn A' = true ∧ p <+: q) → ¬ p <+: q ∧
        ((¬ q <+: p ∧ getP (e s) q = some B) ∨ ∃ r C, r ≠ [] ∧ p = q ++ r ∧ getP (e s) q = some C ∧ isOwn C = true ∧ getP C r = some A ∧ B = setP C r A') := by
      intro q B hq hB hno
      by_cases h1 : p <+: q
      · obtain ⟨r, rfl⟩ := h1
        rw [getP_set_self r A' p hg] at hq
        have hA' : isOwn A' = false := by
          cases hh : isOwn A' with
          | false => rfl
          | true => exact absurd ⟨hh, List.prefix_append _ _⟩ hno
        rw [getP_noOwn r hA' hq] at hB
        cases hB
      · refine ⟨h1, ?_⟩
        by_cases h2 : q <+: p
        · obtain ⟨r, rfl⟩ := h2
          have hrn : r ≠ [] := fun e => h1 (by simp [e])
          obtain ⟨C, hC1, hgr⟩ := getP_up q r hg
          rw [getP_set_up A' r q hg hC1] at hq
          injection hq with hq
          refine .inr ⟨r, C, hrn, rfl, hC1, ?_, hgr, hq.symm⟩
          cases hA' : isOwn A' with
          | true => exact hC hA' q C (List.prefix_append _ _) (fun e => hrn (by simpa using e)) hC1
          | false =>
            cases hc : isOwn C with
            | true => rfl
            | false => rw [← hq, setP_noOwn hA' r hc] at hB; cases hB
        · rw [getP_set_apart A' p q h1 h2] at hq
          exact .inl ⟨h2, hq⟩
    have ht := h.reps t
    unfold TRep
    rw [he t]
    by_cases hts : t = s
    · subst hts
      simp only [if_true]
      unfold TRep at ht
      have hO : ORep Z w.heap β [t] (e t) (val t) := by
        cases het : e t with
        | alias s' p' => exact absurd het (hs s' p').1
        | valias s' p' => exact absurd het (hs s' p').2.1
        | addr s' p' => exact absurd het (hs s' p').2.2.1
        | win s' p' k' => exact absurd het ((hs s' p').2.2.2 k')
        | _ => rw [het] at ht; exact ht
      have hnew : ORep Z' w'.heap β' [t] (setP (e t) p A') (val t) := mvUp [] p (e t) _ rfl hg hO
      have hna := setP_plain hs' hg
      generalize setP (e t) p A' = X at hnew hna
      cases X with
      | alias s' p' => exact absurd rfl (hna s' p').1
      | valias s' p' => exact absurd rfl (hna s' p').2.1
      | addr s' p' => exact absurd rfl (hna s' p').2.2.1
      | win s' p' k' => exact absurd rfl ((hna s' p').2.2.2 k')
      | _ => exact hnew
    · simp only [hts, if_false]
      unfold TRep at ht
      cases het : e t with
      | alias s2 q =>
        rw [het] at ht
        have : (if isOwn A' = true then killV s p (.alias s2 q) else .alias s2 q) = .junk ∨ ((if isOwn A' = true then killV s p (.alias s2 q) else .alias s2 q) = .alias s2 q ∧ (s2 = s → ¬ (isOwn A' = true ∧ p <+: q))) := by
          by_cases hAo : isOwn A' = true
          · simp only [hAo, if_true, killV]
            split
            · exact .inl rfl
            · rename_i hn; exact .inr ⟨rfl, fun h1 h2 => hn ⟨h1, h2.2⟩⟩
          · simp [hAo]
        rcases this with h1 | ⟨h1, h2⟩
        · rw [h1]; exact .pers (.junk _)
        · rw [h1]
          intro B hq hB
          by_cases hss : s2 = s
          · subst hss
            rw [hes] at hq
            obtain ⟨h3, ⟨h4, h5⟩ | ⟨r, C, hrn, hp, hC1, hC2, hgr, rfl⟩⟩ := hap q B hq hB (h2 rfl)
            · exact mvAp q B _ h3 h4 (ht B h5 hB)
            · exact mvUp q r C _ hp hgr (ht C hC1 hC2)
          · obtain ⟨hj, hq'⟩ := hof s2 q B hss hq hB
            exact hmv s2 q B _ hss hj (ht B hq' hB)
      | valias s2 q =>
        rw [het] at ht
        have : (if isOwn A' = true then killV s p (.valias s2 q) else .valias s2 q) = .junk ∨ ((if isOwn A' = true then killV s p (.valias s2 q) else .valias s2 q) = .valias s2 q ∧ (s2 = s → ¬ (isOwn A' = true ∧ p <+: q))) := by
          by_cases hAo : isOwn A' = true
          · simp only [hAo, if_true, killV]
            split
            · exact .inl rfl
            · rename_i hn; exact .inr ⟨rfl, fun h1 h2 => hn ⟨h1, h2.2⟩⟩
          · simp [hAo]
        rcases this with h1 | ⟨h1, h2⟩
        · rw [h1]; exact .pers (.junk _)
        · rw [h1]
          intro l hq
          by_cases hss : s2 = s
          · subst hss
            rw [hes] at hq
            obtain ⟨h3, ⟨h4, h5⟩ | ⟨r, C, hrn, hp, hC1, hC2, hgr, hbx⟩⟩ := hap q _ hq rfl (h2 rfl)
            · obtain ⟨cs, hv, hR, b, T, hb, hz⟩ := ht l h5
              have h6 := hf (s2 :: q) b (by simp) (by simpa [root] using hsj) (by simpa using h3) hb
              exact ⟨cs, hv, mvAp q _ _ h3 h4 hR, b, T, h6.1, h6.2.trans hz⟩
            · obtain ⟨l0, rfl⟩ := setP_isBox hrn hbx.symm
              obtain ⟨cs, hv, hR, b, T, hb, hz⟩ := ht l0 hC1
              have h6 := hf (s2 :: q) b (by simp) (by simpa [root] using hsj) (by simpa using h3) hb
              refine ⟨cs, hv, ?_, b, T, h6.1, h6.2.trans hz⟩
              rw [← setP_box hrn hbx.symm]
              exact mvUp q r _ _ hp (getP_agg hrn hgr) hR
          · obtain ⟨hj, hq'⟩ := hof s2 q _ hss hq rfl
            obtain ⟨cs, hv, hR, b, T, hb, hz⟩ := ht l hq'
            have h6 := hf (s2 :: q) b (by simp) (by simpa [root] using hj) (by simp [Ne.symm hss]) hb
            exact ⟨cs, hv, hmv s2 q _ _ hss hj hR, b, T, h6.1, h6.2.trans hz⟩
      | addr s2 q =>
        rw [het] at ht
        have : (if isOwn A' = true then killV s p (.addr s2 q) else .addr s2 q) = .junk ∨ ((if isOwn A' = true then killV s p (.addr s2 q) else .addr s2 q) = .addr s2 q ∧ (s2 = s → ¬ (isOwn A' = true ∧ p <+: q.dropLast))) := by
          by_cases hAo : isOwn A' = true
          · simp only [hAo, if_true, killV]
            split
            · exact .inl rfl
            · rename_i hn; exact .inr ⟨rfl, fun h1 h2 => hn ⟨h1, h2.2⟩⟩
          · simp [hAo]
        rcases this with h1 | ⟨h1, h2⟩
        · rw [h1]; exact .pers (.junk _)
        · rw [h1]
          obtain ⟨q0, k, b, hp, hv, hb⟩ := ht
          subst hp
          refine ⟨q0, k, b, rfl, hv, fun B hq hB => ?_⟩
          simp only [List.dropLast_concat] at h2
          by_cases hss : s2 = s
          · subst hss
            rw [hes] at hq
            obtain ⟨h3, h4⟩ := hap q0 B hq hB (h2 rfl)
            have hb' : β (s2 :: q0) = some b := by
              rcases h4 with ⟨_, h5⟩ | ⟨r, C, _, _, hC1, hC2, _, _⟩
              · exact hb B h5 hB
              · exact hb C hC1 hC2
            exact (hf _ b (by simp) (by simpa [root] using hsj) (by simpa using h3) hb').1
          · obtain ⟨hj, hq'⟩ := hof s2 q0 B hss hq hB
            exact (hf _ b (by simp) (by simpa [root] using hj) (by simp [Ne.symm hss]) (hb B hq' hB)).1
      | win s2 q k =>
        rw [het] at ht
        have : (if isOwn A' = true then killV s p (.win s2 q k) else .win s2 q k) = .junk ∨ ((if isOwn A' = true then killV s p (.win s2 q k) else .win s2 q k) = .win s2 q k ∧ (s2 = s → ¬ (isOwn A' = true ∧ p <+: q))) := by
          by_cases hAo : isOwn A' = true
          · simp only [hAo, if_true, killV]
            split
            · exact .inl rfl
            · rename_i hn; exact .inr ⟨rfl, fun h1 h2 => hn ⟨h1, h2.2⟩⟩
          · simp [hAo]
        rcases this with h1 | ⟨h1, h2⟩
        · rw [h1]; exact .pers (.junk _)
        · rw [h1]
          intro l hq
          by_cases hss : s2 = s
          · subst hss
            rw [hes] at hq
            obtain ⟨h3, ⟨h4, h5⟩ | ⟨r, C, hrn, hp, hC1, hC2, hgr, hbx⟩⟩ := hap q _ hq rfl (h2 rfl)
            · obtain ⟨u, hu, hv⟩ := ht l h5
              exact ⟨u, mvAp q _ _ h3 h4 hu, hv⟩
            · obtain ⟨l0, rfl⟩ := setP_isOwnL hrn hbx.symm
              obtain ⟨u, hu, hv⟩ := ht l0 hC1
              refine ⟨u, ?_, hv⟩
              rw [hbx]
              exact mvUp q r _ _ hp hgr hu
          · obtain ⟨hj, hq'⟩ := hof s2 q _ hss hq rfl
            obtain ⟨u, hu, hv⟩ := ht l hq'
            exact ⟨u, hmv s2 q _ _ hss hj hu, hv⟩
      | _ =>
        rw [het] at ht
        have hk := killV_same (s := s) (p := p) (x := e t) (by rw [het]; simp)
        rw [het] at hk
        rw [hk, ite_self]
        by_cases hj : e t = .junk
        · rw [het] at hj; first | (cases hj; done) | exact .pers (.junk _)
        · exact hmv t [] _ _ hts hj ht

end Go.Proofs.Ytehdfifncbokeaa

namespace Go.Proofs.Ytehdfifncbokeaa
set_option linter.unusedSimpArgs false
set_option linter.unusedVariables false
set_option maxRecDepth 8000
set_option maxHeartbeats 2000000
open Go Go.RowKit AV

def vals (a : Act) : Nat → Value := fun t => a.tmps.getD t undef

def St (κ : Con) (e : Env) (a : Act) (w : World) : Prop := a.defers = [] ∧ (a.tmps.size = κ.lim.2 ∧ ∀ t, t < κ.lim.1 → vals a t = κ.V0 t) ∧ ∃ Z β, Rep κ Z β e (vals a) w

theorem vals_put {a : Act} {d : Nat} {u : Value} (h : d < a.tmps.size) : vals (a.put (some d) u) = setV (vals a) d u := by
  funext t
  simp only [vals, Act.put, setV, Array.getD_eq_getD_getElem?]
  by_cases htd : t = d
  · subst htd; simp [h]
  · simp [htd, Array.getElem?_setIfInBounds_ne (Ne.symm htd)]

theorem app_set_drop (d : Nat) (A : AV) (e : Env) : (Wr.set d A).app (dropS [d] e) = (Wr.set d A).app e := by
  funext t
  simp only [Wr.app]
  by_cases htd : t = d
  · cases isOwn A <;> simp [upd, htd]
  · cases isOwn A <;> simp [upd, kill, dropS, htd]

theorem app_set_drop2 (d t : Nat) (A : AV) (e : Env) : (Wr.set d A).app (dropS [t, d] e) = apps [.set t .junk, .set d A] e := by
  funext x
  simp only [Wr.app, apps]
  by_cases hxd : x = d
  · cases isOwn A <;> simp [upd, hxd]
  · by_cases hxt : x = t
    · cases isOwn A <;> simp [upd, kill, dropS, hxt, isOwn, killV]
    · cases isOwn A <;> simp [upd, kill, dropS, hxd, hxt, isOwn]

section
variable {κ : Con} {Z : Nat → Option Obj} {β : List Nat → Option Nat} {e : Env} {val : Nat → Value} {w : World}

theorem Rep.slot (h : Rep κ Z β e val w) (t : Nat) (ht : ∀ s p, e t ≠ .alias s p ∧ e t ≠ .valias s p ∧ e t ≠ .addr s p ∧ ∀ k, e t ≠ .win s p k) : ORep Z w.heap β [t] (e t) (val t) := by
  have := h.reps t
  unfold TRep at this
  generalize e t = X at this ht
  cases X with
  | alias s p => exact absurd rfl (ht s p).1
  | valias s p => exact absurd rfl (ht s p).2.1
  | addr s p => exact absurd rfl (ht s p).2.2.1
  | win s p k => exact absurd rfl ((ht s p).2.2.2 k)
  | _ => exact this

theorem Rep.slot' (h : Rep κ Z β e val w) {t : Nat} {A : AV} (he : e t = A) (ht : ∀ s p, A ≠ .alias s p ∧ A ≠ .valias s p ∧ A ≠ .addr s p ∧ ∀ k, A ≠ .win s p k) : ORep Z w.heap β [t] A (val t) := by
  subst he; exact h.slot t ht

theorem Rep.aliasAt (h : Rep κ Z β e val w) {t s : Nat} {p : List Nat} (he : e t = .alias s p) : ∀ A, getP (e s) p = some A → isOwn A = true → ORep Z w.heap β (s :: p) A (val t) := by
  have := h.reps t
  unfold TRep at this
  rw [he] at this
  exact this

theorem Rep.valiasAt (h : Rep κ Z β e val w) {t s : Nat} {p : List Nat} (he : e t = .valias s p) : ∀ l, getP (e s) p = some (.box l) → ∃ cs, val t = .agg cs ∧ ORep Z w.heap β (s :: p) (.agg l) (.agg cs) ∧ InBox w.heap β (s :: p) cs := by
  have := h.reps t
  unfold TRep at this
  rw [he] at this
  exact this

theorem Rep.addrAt (h : Rep κ Z β e val w) {t s : Nat} {p : List Nat} (he : e t = .addr s p) : ∃ q k b, p = q ++ [k] ∧ val t = .pointer (some ⟨b, k, none⟩) ∧ (∀ A, getP (e s) q = some A → isOwn A = true → β (s :: q) = some b) := by
  have := h.reps t
  unfold TRep at this
  rw [he] at this
  exact this

theorem Rep.winAt (h : Rep κ Z β e val w) {t s k : Nat} {p : List Nat} (he : e t = .win s p k) : ∀ l, getP (e s) p = some (.own l) → ∃ u, ORep Z w.heap β (s :: p) (.own l) u ∧ val t = dropV k u := by
  have := h.reps t
  unfold TRep at this
  rw [he] at this
  exact this

theorem isP_plain {A : AV} (h : isP A = true) : ∀ s p, A ≠ .alias s p ∧ A ≠ .valias s p ∧ A ≠ .addr s p ∧ ∀ k, A ≠ .win s p k := by
  intro s p; cases A <;> simp_all [isP]

theorem Rep.put (h : Rep κ Z β e val w) (d : Nat) {A : AV} {u : Value} (hA : PRep Z A u) (hp : ∀ s p, A ≠ .alias s p ∧ A ≠ .valias s p ∧ A ≠ .addr s p ∧ ∀ k, A ≠ .win s p k) : Rep κ Z β ((Wr.set d A).app e) (setV val d u) w := by
  rw [← app_set_drop]
  exact h.big [d] d (by simp) A u rfl rfl rfl (Nat.le_refl _) (fun _ _ _ => rfl) (fun _ _ h => h) (fun _ _ h => .inl h) h.zh (fun r b _ _ hb => ⟨hb, rfl⟩) h.inj h.bo (.pers hA) hp

def mvF (p q : List Nat) (r : List Nat) : Option (List Nat) := if q <+: r then some (p ++ r.drop q.length) else if p <+: r then none else some r

theorem mvF_inj (p q : List Nat) : ∀ r1 r2 x, mvF p q r1 = some x → mvF p q r2 = some x → r1 = r2 := by
  intro r1 r2 x h1 h2
  unfold mvF at h1 h2
  by_cases a : q <+: r1
  · by_cases b : q <+: r2
    · simp only [a, b, if_true, Option.some.injEq] at h1 h2
      obtain ⟨s1, rfl⟩ := a
      obtain ⟨s2, rfl⟩ := b
      rw [← h2] at h1
      simp at h1
      rw [h1]
    · simp only [a, b, if_true, if_false, Option.some.injEq] at h1 h2
      split at h2
      · cases h2
      · rename_i hn
        injection h2 with h2
        rw [← h1] at h2
        exact absurd (by rw [h2]; exact List.prefix_append _ _) hn
  · by_cases b : q <+: r2
    · simp only [a, b, if_true, if_false, Option.some.injEq] at h1 h2
      split at h1
      · cases h1
      · rename_i hn
        injection h1 with h1
        rw [← h2] at h1
        exact absurd (by rw [h1]; exact List.prefix_append _ _) hn
    · simp only [a, b, if_false] at h1 h2
      split at h1
      · cases h1
      · split at h2
        · cases h2
        · injection h1 with h1; injection h2 with h2; rw [h1, h2]

def viaF (f : List Nat → Option (List Nat)) (β : List Nat → Option Nat) : List Nat → Option Nat := fun r => (f r).bind β

theorem viaF_inj {f : List Nat → Option (List Nat)} (hf : ∀ r1 r2 x, f r1 = some x → f r2 = some x → r1 = r2) (h : ∀ p q b, β p = some b → β q = some b → p = q) :
    ∀ p q b, viaF f β p = some b → viaF f β q = some b → p = q := by
  intro p q b h1 h2
  unfold viaF at h1 h2
  cases hp : f p with
  | none => simp [hp] at h1
  | some x =>
    cases hq : f q with
    | none => simp [hq] at h2
    | some y =>
      simp only [hp, hq, Option.bind_some] at h1 h2
      have := h x y b h1 h2
      subst this
      exact hf p q x hp hq

theorem viaF_bo {f : List Nat → Option (List Nat)} {Q : Nat → Prop} (h : ∀ p b, β p = some b → Q b) : ∀ p b, viaF f β p = some b → Q b := by
  intro p b h1
  unfold viaF at h1
  cases hp : f p with
  | none => simp [hp] at h1
  | some x => simp only [hp, Option.bind_some] at h1; exact h x b h1

theorem Rep.give (h : Rep κ Z β e val w) {t d : Nat} {A : AV} (he : e t = A) (hp : ∀ s p, A ≠ .alias s p ∧ A ≠ .valias s p ∧ A ≠ .addr s p ∧ ∀ k, A ≠ .win s p k) :
    Rep κ Z (viaF (mvF [t] [d]) β) (apps [.set t .junk, .set d A] e) (setV val d (val t)) w := by
  rw [← app_set_drop2]
  refine h.big [t, d] d (by simp) A _ rfl rfl rfl (Nat.le_refl _) (fun _ _ _ => rfl) (fun _ _ h => h) (fun _ _ h => .inl h) h.zh (fun r b hr hn hb => ⟨?_, rfl⟩) (viaF_inj (mvF_inj _ _) h.inj) (viaF_bo h.bo) ?_ hp
  · cases r with
    | nil => exact absurd rfl hr
    | cons x r =>
      simp [root] at hn
      have h1 : ¬ t = x := fun e => hn.1 e.symm
      have h2 : ¬ d = x := fun e => hn.2 e.symm
      simp [viaF, mvF, h1, h2, hb]
  · refine (h.slot' he hp).move (fun _ _ h => h) fun r b hb => ⟨?_, rfl⟩
    simp [viaF, mvF] at hb ⊢
    exact hb

theorem Rep.giveP (h : Rep κ Z β e val w) {s d : Nat} (hsd : s ≠ d) {p : List Nat} {A : AV} {u : Value} (hg : getP (e s) p = some A) (hpl : ∀ s' p', e s ≠ .alias s' p' ∧ e s ≠ .valias s' p' ∧ e s ≠ .addr s' p' ∧ ∀ k, e s ≠ .win s' p' k)
    (hp : ∀ s p, A ≠ .alias s p ∧ A ≠ .valias s p ∧ A ≠ .addr s p ∧ ∀ k, A ≠ .win s p k) (hsj : e s ≠ .junk) (hu : ORep Z w.heap β (s :: p) A u) :
    ∃ β', Rep κ Z β' (apps [.set d .junk, .mod s p .junk, .set d A] e) (setV val d u) w := by
  have h1 := h.put d (A := .junk) (u := undef) (.junk _) (by simp)
  have e1 : (Wr.set d AV.junk).app e s = e s := by simp [Wr.app, upd, isOwn, hsd]
  have h2 := h1.mod s p A .junk (by rw [e1]; exact hg) (by rw [e1]; exact hpl) (by simp) (by rw [e1]; exact hsj) (β' := viaF (mvF (s :: p) [d]) β) rfl rfl rfl (Nat.le_refl _) (fun _ _ _ => rfl) (fun _ _ h => h) (fun _ _ h => .inl h) h.zh
    (fun r b hr hj hn hb => ⟨by
      cases r with
      | nil => exact absurd rfl hr
      | cons x r =>
        have hxd : ¬ d = x := by
          intro e0
          subst e0
          exact hj (by simp [root, Wr.app, upd, isOwn])
        have hn' : ¬ (s :: p) <+: (x :: r) := hn
        simp only [viaF, mvF, List.cons_prefix_cons, hxd, false_and, if_false]
        rw [if_neg (by simpa using hn')]
        exact hb, rfl⟩)
    (viaF_inj (mvF_inj _ _) h.inj) (viaF_bo h.bo) (fun _ _ => .pers (.junk _)) (by simp [isOwn])
  have h3 := h2.big [d] d (by simp) A u rfl rfl rfl (Nat.le_refl _) (fun _ _ _ => rfl) (fun _ _ h => h) (fun _ _ h => .inl h) h.zh (fun r b _ _ hb => ⟨hb, rfl⟩) h2.inj h2.bo (by
    refine hu.move (fun _ _ h => h) fun r b hb => ⟨?_, rfl⟩
    simp [viaF, mvF] at hb ⊢
    exact hb) hp
  refine ⟨viaF (mvF (s :: p) [d]) β, ?_⟩
  rw [app_set_drop] at h3
  have : setV (setV val d undef) d u = setV val d u := by funext t; simp only [setV]; split <;> rfl
  rw [this] at h3
  exact h3

theorem Rep.view (h : Rep κ Z β e val w) (d s : Nat) (p : List Nat) (u : Value) (hsd : s ≠ d) (hu : ∀ A, getP (e s) p = some A → isOwn A = true → ORep Z w.heap β (s :: p) A u) :
    Rep κ Z β ((Wr.set d (.alias s p)).app e) (setV val d u) w := by
  have h1 := h.put d (A := .junk) (u := u) (.junk _) (by simp)
  have e1 : (Wr.set d (.alias s p)).app e = upd e d (.alias s p) := rfl
  have e2 : (Wr.set d AV.junk).app e = upd e d .junk := rfl
  rw [e1]
  rw [e2] at h1
  refine ⟨h1.os, h1.tape, h1.output, h1.size, h1.frame, h1.z0, h1.zo, h1.zh, h1.inj, h1.bo, fun t => ?_⟩
  have ht := h1.reps t
  unfold TRep at ht ⊢
  have hpl : ∀ s2 q B, getP (upd e d (.alias s p) s2) q = some B → isOwn B = true → getP (upd e d .junk s2) q = some B := by
    intro s2 q B hq hB
    by_cases h2 : s2 = d
    · subst h2
      simp only [upd_same] at hq
      cases q with
      | nil => simp only [getP, Option.some.injEq] at hq; subst hq; simp [isOwn] at hB
      | cons k q => simp [getP, kids] at hq
    · rw [upd_ne _ _ _ _ h2] at hq ⊢; exact hq
  by_cases htd : t = d
  · subst htd
    simp only [upd_same]
    intro A hA hAo
    rw [upd_ne _ _ _ _ hsd] at hA
    simpa [setV] using hu A hA hAo
  · rw [upd_ne _ _ _ _ htd] at ht ⊢
    cases het : e t with
    | alias s2 q => rw [het] at ht; exact fun A hA hAo => ht A (hpl _ _ _ hA hAo) hAo
    | valias s2 q => rw [het] at ht; exact fun l hl => ht l (hpl _ _ _ hl rfl)
    | addr s2 q =>
      rw [het] at ht
      obtain ⟨q0, k, b, hp, hv, hb⟩ := ht
      exact ⟨q0, k, b, hp, hv, fun A hA hAo => hb A (hpl _ _ _ hA hAo) hAo⟩
    | win s2 q k2 => rw [het] at ht; exact fun l hl => ht l (hpl _ _ _ hl rfl)
    | _ => rw [het] at ht; exact ht

theorem Rep.valiasPut (h : Rep κ Z β e val w) (d s : Nat) (p : List Nat) (u : Value) (hsd : s ≠ d) (hu : ∀ l, getP (e s) p = some (.box l) → ∃ cs, u = .agg cs ∧ ORep Z w.heap β (s :: p) (.agg l) (.agg cs) ∧ InBox w.heap β (s :: p) cs) :
    Rep κ Z β ((Wr.set d (.valias s p)).app e) (setV val d u) w := by
  have h1 := h.put d (A := .junk) (u := u) (.junk _) (by simp)
  have e1 : (Wr.set d (.valias s p)).app e = upd e d (.valias s p) := rfl
  have e2 : (Wr.set d AV.junk).app e = upd e d .junk := rfl
  rw [e1]
  rw [e2] at h1
  refine ⟨h1.os, h1.tape, h1.output, h1.size, h1.frame, h1.z0, h1.zo, h1.zh, h1.inj, h1.bo, fun t => ?_⟩
  have ht := h1.reps t
  unfold TRep at ht ⊢
  have hpl : ∀ s2 q B, getP (upd e d (.valias s p) s2) q = some B → isOwn B = true → getP (upd e d .junk s2) q = some B := by
    intro s2 q B hq hB
    by_cases h2 : s2 = d
    · subst h2
      simp only [upd_same] at hq
      cases q with
      | nil => simp only [getP, Option.some.injEq] at hq; subst hq; simp [isOwn] at hB
      | cons k q => simp [getP, kids] at hq
    · rw [upd_ne _ _ _ _ h2] at hq ⊢; exact hq
  by_cases htd : t = d
  · subst htd
    simp only [upd_same]
    intro l hl
    rw [upd_ne _ _ _ _ hsd] at hl
    simpa [setV] using hu l hl
  · rw [upd_ne _ _ _ _ htd] at ht ⊢
    cases het : e t with
    | alias s2 q => rw [het] at ht; exact fun A hA hAo => ht A (hpl _ _ _ hA hAo) hAo
    | valias s2 q => rw [het] at ht; exact fun l hl => ht l (hpl _ _ _ hl rfl)
    | addr s2 q =>
      rw [het] at ht
      obtain ⟨q0, k, b, hp, hv, hb⟩ := ht
      exact ⟨q0, k, b, hp, hv, fun A hA hAo => hb A (hpl _ _ _ hA hAo) hAo⟩
    | win s2 q k2 => rw [het] at ht; exact fun l hl => ht l (hpl _ _ _ hl rfl)
    | _ => rw [het] at ht; exact ht

theorem Rep.winPut (h : Rep κ Z β e val w) (d s : Nat) (p : List Nat) (k : Nat) (u : Value) (hsd : s ≠ d) (hu : ∀ l, getP (e s) p = some (.own l) → ∃ v, ORep Z w.heap β (s :: p) (.own l) v ∧ u = dropV k v) :
    Rep κ Z β ((Wr.set d (.win s p k)).app e) (setV val d u) w := by
  have h1 := h.put d (A := .junk) (u := u) (.junk _) (by simp)
  have e1 : (Wr.set d (.win s p k)).app e = upd e d (.win s p k) := rfl
  have e2 : (Wr.set d AV.junk).app e = upd e d .junk := rfl
  rw [e1]
  rw [e2] at h1
  refine ⟨h1.os, h1.tape, h1.output, h1.size, h1.frame, h1.z0, h1.zo, h1.zh, h1.inj, h1.bo, fun t => ?_⟩
  have ht := h1.reps t
  unfold TRep at ht ⊢
  have hpl : ∀ s2 q B, getP (upd e d (.win s p k) s2) q = some B → isOwn B = true → getP (upd e d .junk s2) q = some B := by
    intro s2 q B hq hB
    by_cases h2 : s2 = d
    · subst h2
      simp only [upd_same] at hq
      cases q with
      | nil => simp only [getP, Option.some.injEq] at hq; subst hq; simp [isOwn] at hB
      | cons k q => simp [getP, kids] at hq
    · rw [upd_ne _ _ _ _ h2] at hq ⊢; exact hq
  by_cases htd : t = d
  · subst htd
    simp only [upd_same]
    intro l hl
    rw [upd_ne _ _ _ _ hsd] at hl
    simpa [setV] using hu l hl
  · rw [upd_ne _ _ _ _ htd] at ht ⊢
    cases het : e t with
    | alias s2 q => rw [het] at ht; exact fun A hA hAo => ht A (hpl _ _ _ hA hAo) hAo
    | valias s2 q => rw [het] at ht; exact fun l hl => ht l (hpl _ _ _ hl rfl)
    | addr s2 q =>
      rw [het] at ht
      obtain ⟨q0, k, b, hp, hv, hb⟩ := ht
      exact ⟨q0, k, b, hp, hv, fun A hA hAo => hb A (hpl _ _ _ hA hAo) hAo⟩
    | win s2 q k2 => rw [het] at ht; exact fun l hl => ht l (hpl _ _ _ hl rfl)
    | _ => rw [het] at ht; exact ht

theorem Rep.addrPut (h : Rep κ Z β e val w) (d s : Nat) (q : List Nat) (k b : Nat) (hsd : s ≠ d) (hu : ∀ A, getP (e s) q = some A → isOwn A = true → β (s :: q) = some b) :
    Rep κ Z β ((Wr.set d (.addr s (q ++ [k]))).app e) (setV val d (.pointer (some ⟨b, k, none⟩))) w := by
  have h1 := h.put d (A := .junk) (u := .pointer (some ⟨b, k, none⟩)) (.junk _) (by simp)
  have e1 : (Wr.set d (.addr s (q ++ [k]))).app e = upd e d (.addr s (q ++ [k])) := rfl
  have e2 : (Wr.set d AV.junk).app e = upd e d .junk := rfl
  rw [e1]
  rw [e2] at h1
  refine ⟨h1.os, h1.tape, h1.output, h1.size, h1.frame, h1.z0, h1.zo, h1.zh, h1.inj, h1.bo, fun t => ?_⟩
  have ht := h1.reps t
  unfold TRep at ht ⊢
  have hpl : ∀ s2 q2 B, getP (upd e d (.addr s (q ++ [k])) s2) q2 = some B → isOwn B = true → getP (upd e d .junk s2) q2 = some B := by
    intro s2 q2 B hq hB
    by_cases h2 : s2 = d
    · subst h2
      simp only [upd_same] at hq
      cases q2 with
      | nil => simp only [getP, Option.some.injEq] at hq; subst hq; simp [isOwn] at hB
      | cons k q => simp [getP, kids] at hq
    · rw [upd_ne _ _ _ _ h2] at hq ⊢; exact hq
  by_cases htd : t = d
  · subst htd
    simp only [upd_same]
    refine ⟨q, k, b, rfl, by simp [setV], fun A hA hAo => ?_⟩
    rw [upd_ne _ _ _ _ hsd] at hA
    exact hu A hA hAo
  · rw [upd_ne _ _ _ _ htd] at ht ⊢
    cases het : e t with
    | alias s2 q => rw [het] at ht; exact fun A hA hAo => ht A (hpl _ _ _ hA hAo) hAo
    | valias s2 q => rw [het] at ht; exact fun l hl => ht l (hpl _ _ _ hl rfl)
    | addr s2 q =>
      rw [het] at ht
      obtain ⟨q0, k, b, hp, hv, hb⟩ := ht
      exact ⟨q0, k, b, hp, hv, fun A hA hAo => hb A (hpl _ _ _ hA hAo) hAo⟩
    | win s2 q k2 => rw [het] at ht; exact fun l hl => ht l (hpl _ _ _ hl rfl)
    | _ => rw [het] at ht; exact ht

theorem Rep.grow (h : Rep κ Z β e val w) {w' : World} (hos : w'.os = w.os) (htape : w'.tape = w.tape) (hout : w'.output = w.output) (hsize : w.heap.size ≤ w'.heap.size) (hb : ∀ b, b < w.heap.size → w'.heap[b]? = w.heap[b]?) :
    Rep κ Z β e val w' := by
  have hlt : ∀ b o, w.heap[b]? = some o → w'.heap[b]? = some o := fun b o ho => (hb b (Array.getElem?_eq_some_iff.1 ho).1).trans ho
  have hmv : ∀ p A v, ORep Z w.heap β p A v → ORep Z w'.heap β p A v := fun p A v hA => hA.move (fun _ _ h => h) fun r b hr => ⟨hr, hb b (h.bo _ b hr).2.2⟩
  refine ⟨hos.trans h.os, htape.trans h.tape, hout.trans h.output, Nat.le_trans h.size hsize, fun b hb0 hn => ?_, h.z0, h.zo, fun b o ho => hlt b o (h.zh b o ho), h.inj, fun p b hp => ?_, fun t => ?_⟩
  · rw [hb b (Nat.lt_of_lt_of_le hb0 h.size)]; exact h.frame b hb0 hn
  · have := h.bo p b hp; exact ⟨this.1, this.2.1, by omega⟩
  · have ht := h.reps t
    unfold TRep at ht ⊢
    cases het : e t with
    | alias s2 q => rw [het] at ht; exact fun A hA hAo => hmv _ _ _ (ht A hA hAo)
    | valias s2 q =>
      rw [het] at ht
      intro l hl
      obtain ⟨cs, hv, hr, b, T, hb', hz⟩ := ht l hl
      exact ⟨cs, hv, hmv _ _ _ hr, b, T, hb', (hb b (h.bo _ b hb').2.2).trans hz⟩
    | addr s2 q => rw [het] at ht; exact ht
    | win s2 q k2 =>
      rw [het] at ht
      intro l hl
      obtain ⟨u, hu, hv⟩ := ht l hl
      exact ⟨u, hmv _ _ _ hu, hv⟩
    | _ => rw [het] at ht; exact hmv _ _ _ ht

theorem Rep.drew (h : Rep κ Z β e val w) : Rep κ Z β e val w.drew := h.grow rfl rfl rfl (Nat.le_refl _) (fun _ _ => rfl)
theorem Rep.alloc (h : Rep κ Z β e val w) (o : Obj) : Rep κ Z β e val (w.alloc o) := h.grow rfl rfl rfl (by simp) (fun b hb => Below.heap_alloc w o b hb)

theorem Rep.freeze (h : Rep κ Z β e val w) (s : Nat) (p : List Nat) (A : AV) (hg : getP (e s) p = some A) (hpl : ∀ s' p', e s ≠ .alias s' p' ∧ e s ≠ .valias s' p' ∧ e s ≠ .addr s' p' ∧ ∀ k, e s ≠ .win s' p' k) (hsj : e s ≠ .junk)
    (hv : ∀ s p, AV.view A ≠ .alias s p ∧ AV.view A ≠ .valias s p ∧ AV.view A ≠ .addr s p ∧ ∀ k, AV.view A ≠ .win s p k) (hvo : isOwn (AV.view A) = false) :
    ∃ Z' β', Rep κ Z' β' ((Wr.mod s p (AV.view A)).app e) val w ∧ (∀ b o, Z b = some o → Z' b = some o) ∧ (∀ r b, β (s :: p ++ r) = some b → Z' b = w.heap[b]?) ∧ (∀ r, ¬ (s :: p) <+: r → β' r = β r) := by
  classical
  let under : Nat → Prop := fun b => ∃ r, β (s :: p ++ r) = some b
  let Z' : Nat → Option Obj := fun b => if under b then w.heap[b]? else Z b
  let β' : List Nat → Option Nat := fun r => if (s :: p) <+: r then none else β r
  have hZ : ∀ b o, Z b = some o → Z' b = some o := by
    intro b o ho
    show (if under b then w.heap[b]? else Z b) = some o
    split
    · exact h.zh b o ho
    · exact ho
  refine ⟨Z', β', h.mod s p A (AV.view A) hg hpl hv hsj rfl rfl rfl (Nat.le_refl _) (fun _ _ _ => rfl) hZ (fun b o ho => ?_) (fun b o ho => ?_) (fun r b hr hj hn hb => ⟨?_, rfl⟩) (fun p1 p2 b h1 h2 => ?_) (fun p1 b h1 => ?_) (fun u hu => ?_) (fun ho => by rw [hvo] at ho; cases ho), hZ, fun r b hb => by
    show (if under b then w.heap[b]? else Z b) = w.heap[b]?
    rw [if_pos ⟨r, hb⟩], fun r hn => by
    show (if (s :: p) <+: r then none else β r) = β r
    rw [if_neg hn]⟩
  · replace ho : (if under b then w.heap[b]? else Z b) = some o := ho
    split at ho
    · rename_i hu; obtain ⟨r, hr⟩ := hu; exact .inr (h.bo _ b hr).1
    · exact .inl ho
  · replace ho : (if under b then w.heap[b]? else Z b) = some o := ho
    split at ho
    · exact ho
    · exact h.zh b o ho
  · show (if (s :: p) <+: r then none else β r) = some b
    rw [if_neg hn]; exact hb
  · replace h1 : (if (s :: p) <+: p1 then none else β p1) = some b := h1
    replace h2 : (if (s :: p) <+: p2 then none else β p2) = some b := h2
    split at h1
    · cases h1
    · split at h2
      · cases h2
      · exact h.inj p1 p2 b h1 h2
  · replace h1 : (if (s :: p) <+: p1 then none else β p1) = some b := h1
    split at h1
    · cases h1
    · rename_i hn
      have := h.bo p1 b h1
      refine ⟨this.1, ?_, this.2.2⟩
      show (if under b then w.heap[b]? else Z b) = none
      rw [if_neg ?_]
      · exact this.2.1
      · rintro ⟨r, hr⟩
        have := h.inj _ _ b h1 hr
        exact hn (by rw [this]; exact List.prefix_append _ _)
  · exact .pers (hu.toView' hZ fun r b hb => by
      show (if under b then w.heap[b]? else Z b) = w.heap[b]?
      rw [if_pos ⟨r, hb⟩])
end

theorem killV_idem (s : Nat) (p : List Nat) (A : AV) : killV s p (killV s p A) = killV s p A := by
  cases A with
  | alias s' q =>
    by_cases h : s' = s ∧ p <+: q
    · simp only [killV, if_pos h]
    · simp only [killV, if_neg h]
  | valias s' q =>
    by_cases h : s' = s ∧ p <+: q
    · simp only [killV, if_pos h]
    · simp only [killV, if_neg h]
  | addr s' q =>
    by_cases h : s' = s ∧ p <+: q.dropLast
    · simp only [killV, if_pos h]
    · simp only [killV, if_neg h]
  | win s' q k =>
    by_cases h : s' = s ∧ p <+: q
    · simp only [killV, if_pos h]
    · simp only [killV, if_neg h]
  | _ => rfl
theorem app_set_set (d : Nat) (A B : AV) (hA : isOwn A = true) (e : Env) : (Wr.set d A).app ((Wr.set d B).app e) = (Wr.set d A).app e := by
  funext t
  simp only [Wr.app, hA, if_true]
  by_cases htd : t = d
  · subst htd; simp [upd]
  · simp only [upd_ne _ _ _ _ htd, kill]
    split
    · simp only [upd_ne _ _ _ _ htd, kill, killV_idem]
    · simp only [upd_ne _ _ _ _ htd]

theorem Rep.shorten {κ : Con} {Z : Nat → Option Obj} {β : List Nat → Option Nat} {e : Env} {val : Nat → Value} {w : World} {d : Nat} {v : Value} {l : List AV} (h : Rep κ Z β ((Wr.set d (.own l)).app e) (setV val d v) w) (n : Nat) (hn : n ≤ l.length) :
    ∃ A c, v = .slice A l.length c ∧ l.length ≤ c ∧ c ≤ maxLen ∧ Rep κ Z β ((Wr.set d (.own (l.take n))).app e) (setV val d (.slice A n c)) w := by
  have he : (Wr.set d (AV.own l)).app e d = .own l := by simp [Wr.app, isOwn, upd]
  have hs := h.slot' he (by simp)
  simp only [setV, if_true] at hs
  have key : ∀ A c, ORep Z w.heap β [d] (.own (l.take n)) (.slice A n c) → Rep κ Z β ((Wr.set d (.own (l.take n))).app e) (setV val d (.slice A n c)) w := by
    intro A c hA
    have := h.big [d] d (by simp) (.own (l.take n)) (.slice A n c) rfl rfl rfl (Nat.le_refl _) (fun _ _ _ => rfl) (fun _ _ h => h) (fun _ _ h => .inl h) h.zh (fun r b _ _ hb => ⟨hb, rfl⟩) h.inj h.bo hA (by simp)
    rw [app_set_drop, app_set_set _ _ _ rfl] at this
    have e2 : setV (setV val d v) d (.slice A n c) = setV val d (.slice A n c) := by funext t; simp only [setV]; split <;> rfl
    rwa [e2] at this
  cases hs with
  | pers h => cases h
  | nil =>
    obtain rfl : n = 0 := by simpa using hn
    exact ⟨_, _, rfl, by simp, by decide, key _ _ .nil⟩
  | own l b c cs T us hb hz h1 h2 h3 hu h4 hk =>
    refine ⟨_, c, rfl, h1, h3, key _ _ ?_⟩
    have hl : (l.take n).length = n := by simp; omega
    have := ORep.own (Z := Z) (l.take n) b c cs T us hb hz (by omega) h2 h3 (fun k hk => hu k (by omega)) (fun k hk => h4 k (by omega)) (fun k hk' => by
      simp only [List.getElem_take]
      exact hk k (by omega))
    rw [hl] at this
    exact this

end Go.Proofs.Ytehdfifncbokeaa

namespace Go.Proofs.Ytehdfifncbokeaa
set_option linter.unusedSimpArgs false
set_option linter.unusedVariables false
set_option maxRecDepth 8000
set_option maxHeartbeats 2000000
open Go Go.RowKit AV

inductive Rd : Type 1 where
  | ret (ws : List Wr)
  | fail
  | get (t : Nat) (k : AV → Rd)
  | peek (t : Nat) (k : AV → Rd)
  | need (c : Prop) (k : Rd)
  | ex (α : Type) (k : α → Rd)
  | br (c : Prop) (x y : Rd)

structure Fp where
  gets : List Nat
  peeks : List Nat
  tgs : List Nat
  ws : List Wr

def tg : AV → List Nat
  | .alias s _ => [s]
  | .valias s _ => [s]
  | .addr s _ => [s]
  | .win s _ _ => [s]
  | _ => []

def Rd.Ok (e : Env) : Rd → Fp → Prop
  | .ret ws, f => f = ⟨[], [], [], ws⟩
  | .fail, _ => False
  | .get t k, f => e t ≠ .junk ∧ ∃ f', Rd.Ok e (k (e t)) f' ∧ f = ⟨t :: f'.gets, f'.peeks, tg (e t) ++ f'.tgs, f'.ws⟩
  | .peek t k, f => e t ≠ .junk ∧ ∃ f', Rd.Ok e (k (head (e t))) f' ∧ f = ⟨f'.gets, t :: f'.peeks, tg (e t) ++ f'.tgs, f'.ws⟩
  | .need c k, f => c ∧ Rd.Ok e k f
  | .ex _ k, f => ∃ x, Rd.Ok e (k x) f
  | .br c x y, f => (c ∧ Rd.Ok e x f) ∨ (¬ c ∧ Rd.Ok e y f)

def Rd.Wo (e : Env) : Rd → List Wr → Prop
  | .ret ws, f => f = ws
  | .fail, _ => False
  | .get t k, f => e t ≠ .junk ∧ Rd.Wo e (k (e t)) f
  | .peek t k, f => e t ≠ .junk ∧ Rd.Wo e (k (head (e t))) f
  | .need c k, f => c ∧ Rd.Wo e k f
  | .ex _ k, f => ∃ x, Rd.Wo e (k x) f
  | .br c x y, f => (c ∧ Rd.Wo e x f) ∨ (¬ c ∧ Rd.Wo e y f)

theorem Rd.Ok.wo {e : Env} : ∀ {r : Rd} {f : Fp}, r.Ok e f → r.Wo e f.ws
  | .ret _, _, h => by rw [h]; rfl
  | .fail, _, h => h
  | .get _ _, _, ⟨h1, _, h2, h3⟩ => ⟨h1, by rw [h3]; exact h2.wo⟩
  | .peek _ _, _, ⟨h1, _, h2, h3⟩ => ⟨h1, by rw [h3]; exact h2.wo⟩
  | .need _ _, _, ⟨h1, h2⟩ => ⟨h1, h2.wo⟩
  | .ex _ _, _, ⟨x, h⟩ => ⟨x, h.wo⟩
  | .br _ _ _, _, .inl ⟨h1, h2⟩ => .inl ⟨h1, h2.wo⟩
  | .br _ _ _, _, .inr ⟨h1, h2⟩ => .inr ⟨h1, h2.wo⟩

def rdIdx (l : List AV) (n : Nat) (k : AV → Rd) : Rd := .ex AV fun a => .need (l[n]? = some a) (k a)
def rdGetP (c : AV) (q : List Nat) (k : AV → Rd) : Rd := .ex AV fun a => .need (getP c q = some a) (k a)

section
variable (P : Program)
def slE (T : Nat) : Option Nat := match P.underlying T with
  | some (.slice e) => some e
  | _ => none
def elOK (E : Nat) : Bool := match P.info? E with
  | some i => i.size == 1 && decide (i.bytes ≤ 64) && (match i.zero with
    | some z => z.oneCell'
    | none => false)
  | none => false
def slOK (T : Nat) : Bool := match slE P T with
  | some e => elOK P e
  | none => false
def cst : Value → AV
  | .int k n => .num k n
  | .bool b => .bool b
  | .slice none 0 0 => .own []
  | _ => .junk
def zOf (E : Nat) : AV := match P.info? E with
  | some i => (match i.zero with
    | some z => cst z
    | none => .junk)
  | none => .junk
def slZ (T : Nat) : AV := match slE P T with
  | some e => zOf P e
  | none => .junk
def aggT (T : Nat) : Option Bool := match P.underlying T with
  | some (.struct _) => some true
  | some (.array _ _) => none
  | some _ => some false
  | none => none
def szT (T : Nat) : Option Nat := (P.info? T).map (·.size)
def stO (T f : Nat) : Option Nat := match P.underlying T with
  | some (.struct fs) => (match fs[f]? with
    | some fl => if szT P fl.type = some 1 ∧ aggT P fl.type = some false then some fl.offset else none
    | none => none)
  | _ => none
def zT (T : Nat) : Option (List AV) := match P.info? T with
  | some i => (match i.zero with
    | some z => if z.cells.toList.all (·.oneCell') then some (z.cells.toList.map cst) else none
    | none => none)
  | none => none
def bPl (T : Nat) : Option (List (Nat × Nat)) := match P.underlying T with
  | some (.struct fs) => fs.toList.mapM (fun f => (P.info? f.type).map fun i => (f.offset, i.size))
  | _ => none
def boT (T : Nat) : Bool := match P.underlying T with
  | some .bool => true
  | _ => false
def inT (T : Nat) : Option IntKind := match P.underlying T with
  | some (.int k) => some k
  | _ => none
end

def in64 (n : Int) : Prop := -9223372036854775808 ≤ n ∧ n ≤ 9223372036854775807
def nat64 (n : Int) : Prop := 0 ≤ n ∧ n ≤ 9223372036854775807

def binV (P : Program) (T : Nat) : BinOp → AV → AV → Option (Prop × AV)
  | .add, .num .i64 m, .num .i64 n => some (in64 (m + n), .num .i64 (m + n))
  | .sub, .num .i64 m, .num .i64 n => some (in64 (m - n), .num .i64 (m - n))
  | .mul, .num .i64 m, .num .i64 n => some (in64 (m * n), .num .i64 (m * n))
  | .quo, .num .i64 m, .num .i64 n => some (nat64 m ∧ 0 < n, .num .i64 (m / n))
  | .rem, .num .i64 m, .num .i64 n => some (0 ≤ m ∧ 0 < n, .num .i64 (m % n))
  | .and, .num .i64 m, .num .i64 n => some (nat64 m ∧ nat64 n, .num .i64 ((m.toNat &&& n.toNat : Nat) : Int))
  | .or, .num .i64 m, .num .i64 n => some (nat64 m ∧ nat64 n, .num .i64 ((m.toNat ||| n.toNat : Nat) : Int))
  | .xor, .num .i64 m, .num .i64 n => some (nat64 m ∧ nat64 n, .num .i64 ((m.toNat ^^^ n.toNat : Nat) : Int))
  | .andNot, .num .i64 m, .num .i64 n => some (nat64 m ∧ nat64 n, .num .i64 (bits .andNot .i64 m n))
  | .shl, .num .i64 m, .num .i64 n => some (0 ≤ n ∧ n < 64 ∧ in64 (m * 2 ^ n.toNat), .num .i64 (m * 2 ^ n.toNat))
  | .shl, .num .i64 m, .num .u64 n => some (0 ≤ n ∧ n < 64 ∧ in64 (m * 2 ^ n.toNat), .num .i64 (m * 2 ^ n.toNat))
  | .shr, .num .i64 m, .num .i64 n => some (0 ≤ n ∧ n < 64, .num .i64 (m / 2 ^ n.toNat))
  | .eql, .num j m, .num k n => some (j = k, .bool (decide (m = n)))
  | .neq, .num j m, .num k n => some (j = k, .bool (!decide (m = n)))
  | .lss, .num j m, .num k n => some (j = k, .bool (decide (m < n)))
  | .leq, .num j m, .num k n => some (j = k, .bool (decide (m ≤ n)))
  | .gtr, .num j m, .num k n => some (j = k, .bool (decide (n < m)))
  | .geq, .num j m, .num k n => some (j = k, .bool (decide (n ≤ m)))
  | .eql, .bool a, .bool b => some (boT P T = true, .bool (a == b))
  | .neq, .bool a, .bool b => some (boT P T = true, .bool (!(a == b)))
  | _, _, _ => none

theorem eqGuard_int (P : Program) (w : World) (op : BinOp) (T : Nat) (x y : Operand) (j k : IntKind) (m n : Int) : (eqGuard op T x y (.int j m) (.int k n)).run P w = .ok () w := by
  cases op <;> rfl
theorem eqGuard_bool (P : Program) (w : World) (op : BinOp) (T : Nat) (x y : Operand) (a b : Bool) : (eqGuard op T x y (.bool a) (.bool b)).run P w = .ok () w := by
  cases op <;> rfl

theorem nat64_cast {m : Int} (h : nat64 m) : ∃ a : Nat, m = a ∧ a < 9223372036854775808 := ⟨m.toNat, by have := h.1; omega, by have := h.2; omega⟩

theorem binV_sound {P : Program} {T : Nat} {op : BinOp} {A B R : AV} {c : Prop} (h : binV P T op A B = some (c, R)) (hc : c) {Z} {x y : Value} (hA : PRep Z A x) (hB : PRep Z B y) (xo yo : Operand) (w : World) :
    ∃ u, (do eqGuard op T xo yo x y; binOp op T x y : Sem Value).run P w = .ok u w ∧ PRep Z R u := by
  cases A with
  | num j m =>
    cases B with
    | num k n =>
      cases hA; cases hB
      have hg := eqGuard_int P w op T xo yo j k m n
      have hrun : (do eqGuard op T xo yo (.int j m) (.int k n); binOp op T (.int j m) (.int k n) : Sem Value).run P w = (binOp op T (.int j m) (.int k n)).run P w := by
        rw [Sem.run_bind, hg]; rfl
      rw [hrun]
      cases op with
      | add => cases j <;> cases k <;> simp only [binV, Option.some.injEq, Prod.mk.injEq, reduceCtorEq] at h; obtain ⟨rfl, rfl⟩ := h; exact ⟨_, by simp [binOp, Op.intArith]; rfl, by rw [IntWalk.i64_in _ hc]; exact .num _ _⟩
      | sub => cases j <;> cases k <;> simp only [binV, Option.some.injEq, Prod.mk.injEq, reduceCtorEq] at h; obtain ⟨rfl, rfl⟩ := h; exact ⟨_, by simp [binOp, Op.intArith]; rfl, by rw [IntWalk.i64_in _ hc]; exact .num _ _⟩
      | mul => cases j <;> cases k <;> simp only [binV, Option.some.injEq, Prod.mk.injEq, reduceCtorEq] at h; obtain ⟨rfl, rfl⟩ := h; exact ⟨_, by simp [binOp, Op.intArith]; rfl, by rw [IntWalk.i64_in _ hc]; exact .num _ _⟩
      | quo =>
        cases j <;> cases k <;> simp only [binV, Option.some.injEq, Prod.mk.injEq, reduceCtorEq] at h
        obtain ⟨rfl, rfl⟩ := h
        obtain ⟨⟨h0, h1⟩, h2⟩ := hc
        have h3 : m.tdiv n = m / n := Int.tdiv_eq_ediv_of_nonneg h0
        have h4 : 0 ≤ m / n := Int.ediv_nonneg h0 (by omega)
        have h5 : m / n ≤ m := Int.ediv_le_self _ h0
        refine ⟨.int .i64 (m / n), ?_, .num _ _⟩
        have h6 : ¬ n = 0 := by omega
        simp [binOp, Op.intDiv, h6, h3]
        exact IntWalk.i64_in _ (by omega)
      | rem =>
        cases j <;> cases k <;> simp only [binV, Option.some.injEq, Prod.mk.injEq, reduceCtorEq] at h
        obtain ⟨rfl, rfl⟩ := h
        obtain ⟨h0, h2⟩ := hc
        have h3 : m.tmod n = m % n := Int.tmod_eq_emod_of_nonneg h0
        have h6 : ¬ n = 0 := by omega
        exact ⟨.int .i64 (m % n), by simp [binOp, Op.intDiv, h6, h3], .num _ _⟩
      | and =>
        cases j <;> cases k <;> simp only [binV, Option.some.injEq, Prod.mk.injEq, reduceCtorEq] at h
        obtain ⟨rfl, rfl⟩ := h
        obtain ⟨a, rfl, ha⟩ := nat64_cast hc.1
        obtain ⟨b, rfl, hb⟩ := nat64_cast hc.2
        refine ⟨.int .i64 ((a &&& b : Nat) : Int), ?_, by simpa using PRep.num _ _⟩
        have := bits_and a b ha
        simp only [binOp, ne_eq, not_true_eq_false, if_false]
        exact congrArg (fun z => Result.ok (Value.int .i64 z) w) this
      | or =>
        cases j <;> cases k <;> simp only [binV, Option.some.injEq, Prod.mk.injEq, reduceCtorEq] at h
        obtain ⟨rfl, rfl⟩ := h
        obtain ⟨a, rfl, ha⟩ := nat64_cast hc.1
        obtain ⟨b, rfl, hb⟩ := nat64_cast hc.2
        refine ⟨.int .i64 ((a ||| b : Nat) : Int), ?_, by simpa using PRep.num _ _⟩
        have := bits_or a b ha hb
        simp only [binOp, ne_eq, not_true_eq_false, if_false]
        exact congrArg (fun z => Result.ok (Value.int .i64 z) w) this
      | xor =>
        cases j <;> cases k <;> simp only [binV, Option.some.injEq, Prod.mk.injEq, reduceCtorEq] at h
        obtain ⟨rfl, rfl⟩ := h
        obtain ⟨a, rfl, ha⟩ := nat64_cast hc.1
        obtain ⟨b, rfl, hb⟩ := nat64_cast hc.2
        refine ⟨.int .i64 ((a ^^^ b : Nat) : Int), ?_, by simpa using PRep.num _ _⟩
        have := bits_xor a b ha hb
        simp only [binOp, ne_eq, not_true_eq_false, if_false]
        exact congrArg (fun z => Result.ok (Value.int .i64 z) w) this
      | andNot =>
        cases j <;> cases k <;> simp only [binV, Option.some.injEq, Prod.mk.injEq, reduceCtorEq] at h
        obtain ⟨rfl, rfl⟩ := h
        exact ⟨_, rfl, .num _ _⟩
      | shl =>
        cases j <;> cases k <;> simp only [binV, Option.some.injEq, Prod.mk.injEq, reduceCtorEq] at h
        all_goals
          obtain ⟨rfl, rfl⟩ := h
          obtain ⟨h0, h1, h2⟩ := hc
          refine ⟨.int .i64 (m * 2 ^ n.toNat), ?_, .num _ _⟩
          have h3 : ¬ n < 0 := by omega
          have h4 : min n.toNat IntKind.i64.bits = n.toNat := Nat.min_eq_left (by simp [IntKind.bits]; omega)
          simp [binOp, Op.shift, h3, h4]
          exact IntWalk.i64_in _ h2
      | shr =>
        cases j <;> cases k <;> simp only [binV, Option.some.injEq, Prod.mk.injEq, reduceCtorEq] at h
        obtain ⟨rfl, rfl⟩ := h
        obtain ⟨h0, h1⟩ := hc
        refine ⟨.int .i64 (m / 2 ^ n.toNat), ?_, .num _ _⟩
        have h3 : ¬ n < 0 := by omega
        have h4 : min n.toNat IntKind.i64.bits = n.toNat := Nat.min_eq_left (by simp [IntKind.bits]; omega)
        have h5 : m.fdiv (2 ^ n.toNat) = m / 2 ^ n.toNat := Int.fdiv_eq_ediv_of_nonneg _ (Int.le_of_lt (Int.pow_pos (by omega)))
        simp [binOp, Op.shift, h3, h4, h5]
      | eql => simp only [binV, Option.some.injEq, Prod.mk.injEq] at h; obtain ⟨rfl, rfl⟩ := h; subst hc; exact ⟨.bool (decide (m = n)), by simp [binOp, Op.intCmp]; rfl, .bool _⟩
      | neq => simp only [binV, Option.some.injEq, Prod.mk.injEq] at h; obtain ⟨rfl, rfl⟩ := h; subst hc; exact ⟨.bool (!decide (m = n)), by simp [binOp, Op.intCmp, bne]; rfl, .bool _⟩
      | lss => simp only [binV, Option.some.injEq, Prod.mk.injEq] at h; obtain ⟨rfl, rfl⟩ := h; subst hc; exact ⟨.bool (decide (m < n)), by simp [binOp, Op.intCmp], .bool _⟩
      | leq => simp only [binV, Option.some.injEq, Prod.mk.injEq] at h; obtain ⟨rfl, rfl⟩ := h; subst hc; exact ⟨.bool (decide (m ≤ n)), by simp [binOp, Op.intCmp], .bool _⟩
      | gtr => simp only [binV, Option.some.injEq, Prod.mk.injEq] at h; obtain ⟨rfl, rfl⟩ := h; subst hc; exact ⟨.bool (decide (n < m)), by simp [binOp, Op.intCmp], .bool _⟩
      | geq => simp only [binV, Option.some.injEq, Prod.mk.injEq] at h; obtain ⟨rfl, rfl⟩ := h; subst hc; exact ⟨.bool (decide (n ≤ m)), by simp [binOp, Op.intCmp], .bool _⟩
    | _ => cases op <;> cases j <;> simp [binV] at h
  | bool a =>
    cases B with
    | bool b =>
      cases hA; cases hB
      have hg := eqGuard_bool P w op T xo yo a b
      have hrun : (do eqGuard op T xo yo (.bool a) (.bool b); binOp op T (.bool a) (.bool b) : Sem Value).run P w = (binOp op T (.bool a) (.bool b)).run P w := by
        rw [Sem.run_bind, hg]; rfl
      rw [hrun]
      have hT : boT P T = true → P.underlying T = some .bool := by
        intro h
        unfold boT at h
        split at h
        · assumption
        · cases h
      cases op with
      | eql => simp only [binV, Option.some.injEq, Prod.mk.injEq] at h; obtain ⟨rfl, rfl⟩ := h; exact ⟨_, run_eql_bool w T a b (hT hc), .bool _⟩
      | neq => simp only [binV, Option.some.injEq, Prod.mk.injEq] at h; obtain ⟨rfl, rfl⟩ := h; exact ⟨_, run_neq_bool w T a b (hT hc), .bool _⟩
      | _ => simp [binV] at h
    | _ => cases op <;> simp [binV] at h
  | _ => cases op <;> simp [binV] at h

end Go.Proofs.Ytehdfifncbokeaa

namespace Go.Proofs.Ytehdfifncbokeaa
set_option linter.unusedSimpArgs false
set_option linter.unusedVariables false
set_option maxRecDepth 8000
set_option maxHeartbeats 2000000
open Go Go.RowKit AV

def Does (P : Program) (κ : Con) (o : Oper) (e : Env) (ws : List Wr) : Prop :=
  ∀ (Q : Exit → Act → World → Prop) (K : Act → World → Prop) (a : Act) (w : World), St κ e a w → (∀ a' w', St κ (apps ws e) a' w' → K a' w') → o.wp P a w K Q

theorem keep_put {κ : Con} {a : Act} {d : Nat} {u : Value} (hn : κ.lim.1 ≤ d ∧ d < κ.lim.2) (h2 : a.tmps.size = κ.lim.2 ∧ ∀ t, t < κ.lim.1 → vals a t = κ.V0 t) :
    (a.put (some d) u).tmps.size = κ.lim.2 ∧ ∀ t, t < κ.lim.1 → vals (a.put (some d) u) t = κ.V0 t := by
  refine ⟨by simp [Act.put, h2.1], fun t ht => ?_⟩
  rw [vals_put (by omega), setV, if_neg (by omega)]
  exact h2.2 t ht

section
variable {P : Program} {κ : Con} {o : Oper} {e : Env} {ws : List Wr}

theorem does_value {d : Nat} (hd : o.dst = some d) (hn : (κ.lim.1 ≤ d ∧ d < κ.lim.2))
    (h : ∀ a w Z β, Rep κ Z β e (vals a) w → ∃ u w' Z' β', (execOp a.eval o).run P w = .ok (.value u) w' ∧ Rep κ Z' β' (apps ws e) (setV (vals a) d u) w') : Does P κ o e ws := by
  intro Q K a w ⟨h1, h2, Z, β, hR⟩ hK
  obtain ⟨u, w', Z', β', hrun, hR'⟩ := h a w Z β hR
  unfold Oper.wp
  rw [hrun, Oper.upon_value, hd]
  refine hK _ _ ⟨h1, keep_put hn h2, Z', β', ?_⟩
  rw [vals_put (by omega)]
  exact hR'

theorem does_skip (hd : o.dst = none)
    (h : ∀ a w Z β, Rep κ Z β e (vals a) w → ∃ w' Z' β', (execOp a.eval o).run P w = .ok .skip w' ∧ Rep κ Z' β' (apps ws e) (vals a) w') : Does P κ o e ws := by
  intro Q K a w ⟨h1, h2, Z, β, hR⟩ hK
  obtain ⟨w', Z', β', hrun, hR'⟩ := h a w Z β hR
  unfold Oper.wp
  rw [hrun, Oper.upon_skip, hd]
  exact hK _ _ ⟨h1, h2, Z', β', hR'⟩
end

theorem eval_tmp (a : Act) (t : Nat) : a.eval (.tmp t) = vals a t := rfl

theorem cst_rep {Z : Nat → Option Obj} {H : Array Obj} {β : List Nat → Option Nat} (p : List Nat) (v : Value) (h : cst v ≠ .junk) : ORep Z H β p (cst v) v := by
  unfold cst at h ⊢
  split
  · exact .pers (.num _ _)
  · exact .pers (.bool _)
  · exact .nil
  · simp at h

theorem cst_plain (v : Value) : ∀ s p, cst v ≠ .alias s p ∧ cst v ≠ .valias s p ∧ cst v ≠ .addr s p ∧ ∀ k, cst v ≠ .win s p k := by
  intro s p
  unfold cst
  split <;> simp

noncomputable def rdX (x : Operand) (k : AV → Rd) : Rd := match x with
  | .tmp t => .get t k
  | .const v => .need (cst v ≠ .junk) (k (cst v))
  | .func f => k (.fn f [])
  | .global _ => .fail

theorem rdX_sound {e : Env} {x : Operand} {k : AV → Rd} {ws : List Wr} (h : (rdX x k).Wo e ws) : ∃ A, (k A).Wo e ws ∧ A ≠ .junk ∧
    ∀ {κ Z β w} {a : Act}, Rep κ Z β e (vals a) w → isP A = true → PRep Z A (a.eval x) := by
  cases x with
  | tmp t =>
    obtain ⟨h1, h2⟩ := h
    exact ⟨_, h2, h1, fun hR hp => ORep.toP (hR.slot t (isP_plain hp)) hp⟩
  | const v =>
    obtain ⟨h1, h2⟩ := h
    exact ⟨_, h2, h1, fun {κ Z β w a} hR hp => ORep.toP (cst_rep (H := w.heap) (β := β) [] v h1) hp⟩
  | func f => exact ⟨_, h, by simp, fun hR hp => .fn f [] #[] rfl (by simp)⟩
  | global g => exact h.elim

noncomputable def rdTake (d t : Nat) (k : AV → List Wr → Rd) : Rd := .get t fun v => match v with
  | .alias s p => .need (s ≠ d) (.get s fun c => rdGetP c p fun A => .need (isOwn A = true) (k A [.set d .junk, .mod s p .junk]))
  | .valias _ _ => .fail
  | .addr _ _ => .fail
  | .win s p j => .need (s ≠ d ∧ bigW ≤ j) (.get s fun c => rdGetP c p fun A => match A with
    | .own l => .need (j - bigW ≤ l.length) (k (.own (l.take (j - bigW))) [.set d .junk, .mod s p .junk])
    | _ => .fail)
  | .junk => .fail
  | v => if isOwn v then k v [.set t .junk] else if isP v then k v [] else .fail

noncomputable def rdBor (d t : Nat) : Rd := .peek t fun h => match h with
  | .own _ => .need (t ≠ d) (.ret [.set d (.alias t [])])
  | .box _ => .need (t ≠ d) (.ret [.set d (.alias t [])])
  | .alias s p => .need (s ≠ d) (.ret [.set d (.alias s p)])
  | .valias s p => .need (s ≠ d) (.ret [.set d (.valias s p)])
  | .addr s p => .need (s ≠ d) (.ret [.set d (.addr s p)])
  | .win s p k => .need (s ≠ d) (.ret [.set d (.win s p k)])
  | .omap _ _ => .need (t ≠ d) (.ret [.set d (.alias t [])])
  | .orec _ _ => .need (t ≠ d) (.ret [.set d (.alias t [])])
  | .junk => .fail
  | _ => .get t fun v => if isP v then .ret [.set d v] else .fail

noncomputable def rdMv (tr : Bool) (d : Nat) (x : Operand) : Rd := match x with
  | .const v => .ret [.set d (cst v)]
  | .func f => .ret [.set d (.fn f [])]
  | .global _ => .fail
  | .tmp t => if tr then .peek t fun h => match h with
      | .win s p j => .br (bigW ≤ j) (rdTake d t fun A ws => .ret (ws ++ [.set d A])) (.need (s ≠ d) (.ret [.set d (.win s p j)]))
      | _ => rdTake d t fun A ws => .ret (ws ++ [.set d A])
    else rdBor d t

theorem plain_of_own {c A : AV} {p : List Nat} (h : getP c p = some A) (hA : isOwn A = true) : c ≠ .junk ∧ ∀ s p, c ≠ .alias s p ∧ c ≠ .valias s p ∧ c ≠ .addr s p ∧ ∀ k, c ≠ .win s p k := by
  have hc : isOwn c = true := by
    cases hc : isOwn c with
    | true => rfl
    | false => rw [getP_noOwn p hc h] at hA; cases hA
  cases c <;> simp_all [isOwn]

theorem own_plain {A : AV} (hA : isOwn A = true) : ∀ s p, A ≠ .alias s p ∧ A ≠ .valias s p ∧ A ≠ .addr s p ∧ ∀ k, A ≠ .win s p k := by
  intro s p; cases A <;> simp_all [isOwn]

theorem rdTake_sound {e : Env} {d t : Nat} {k : AV → List Wr → Rd} {ws : List Wr} (h : (rdTake d t k).Wo e ws) : ∃ A ws0, (k A ws0).Wo e ws ∧ A ≠ .junk ∧ (∀ s p, A ≠ .alias s p ∧ A ≠ .valias s p ∧ A ≠ .addr s p ∧ ∀ k, A ≠ .win s p k) ∧
    ∀ {κ Z β w} {val : Nat → Value}, Rep κ Z β e val w → ∃ β', Rep κ Z β' (apps (ws0 ++ [.set d A]) e) (setV val d (val t)) w := by
  obtain ⟨h1, h2⟩ := h
  cases het : e t with
  | alias s p =>
    simp only [het] at h2
    obtain ⟨hsd, hsj, A, hg, hA, hk⟩ := h2
    have hpl := plain_of_own hg hA
    refine ⟨A, _, hk, by rintro rfl; simp [isOwn] at hA, own_plain hA, fun hR => ?_⟩
    exact hR.giveP hsd hg hpl.2 (own_plain hA) hsj (hR.aliasAt het A hg hA)
  | valias s p => simp only [het] at h2; exact h2.elim
  | addr s p => simp only [het] at h2; exact h2.elim
  | win s p j =>
    simp only [het] at h2
    obtain ⟨⟨hsd, hj⟩, hsj, A, hg, hk⟩ := h2
    dsimp only at hk
    split at hk
    case h_2 => exact hk.elim
    rename_i l
    obtain ⟨hl, hk⟩ := hk
    have hpl := plain_of_own hg rfl
    refine ⟨_, _, hk, by simp, by simp, fun {κ Z β w val} hR => ?_⟩
    obtain ⟨u, hu, hv⟩ := hR.winAt het _ hg
    obtain ⟨β', hR1⟩ := hR.giveP hsd hg hpl.2 (by simp) hsj hu
    obtain ⟨A, c, hu2, _, _, hR2⟩ := hR1.shorten (e := (Wr.mod s p .junk).app ((Wr.set d .junk).app e)) (j - bigW) hl
    refine ⟨β', ?_⟩
    have : val t = .slice A (j - bigW) c := by rw [hv, hu2]; simp only [dropV]; rw [if_neg (by omega)]
    rw [this]
    exact hR2
  | junk => exact absurd het h1
  | _ =>
    simp only [het] at h2
    split at h2
    · refine ⟨_, _, h2, by simp, by simp, fun hR => ⟨_, hR.give het (by simp)⟩⟩
    · split at h2
      · rename_i hp
        refine ⟨_, _, h2, by simp, by simp, fun hR => ⟨_, hR.put d (ORep.toP (hR.slot' het (by simp)) hp) (by simp)⟩⟩
      · exact h2.elim

theorem rdMv_sound {P : Program} {κ : Con} {o : Oper} {e : Env} {ws : List Wr} {tr : Bool} {d : Nat} {x : Operand} (ho : o.op = .move x ∨ o.op = .assign x) (hd : o.dst = some d) (hn : (κ.lim.1 ≤ d ∧ d < κ.lim.2)) (h : (rdMv tr d x).Wo e ws) : Does P κ o e ws := by
  have hrun : ∀ (a : Act) (w : World), (execOp a.eval o).run P w = .ok (.value (a.eval x)) w := by
    intro a w
    rcases ho with ho | ho <;> simp [execOp, ho]
  refine does_value hd hn fun a w Z β hR => ⟨a.eval x, w, ?_⟩
  cases x with
  | const v =>
    have h2 : ws = _ := h
    subst h2
    by_cases h1 : cst v = .junk
    · rw [h1]; exact ⟨Z, β, hrun a w, hR.put d (.junk _) (by simp)⟩
    by_cases hp : isP (cst v) = true
    · exact ⟨Z, β, hrun a w, hR.put d (ORep.toP (cst_rep (H := w.heap) (β := β) [] v h1) hp) (cst_plain v)⟩
    · refine ⟨Z, β, hrun a w, ?_⟩
      show Rep κ Z β ((Wr.set d (cst v)).app e) _ w
      rw [← app_set_drop]
      exact hR.big [d] d (by simp) _ _ rfl rfl rfl (Nat.le_refl _) (fun _ _ _ => rfl) (fun _ _ h => h) (fun _ _ h => .inl h) hR.zh (fun r b _ _ hb => ⟨hb, rfl⟩) hR.inj hR.bo (cst_rep _ v h1) (cst_plain v)
  | func f =>
    replace h : ws = [Wr.set d (.fn f [])] := h
    subst h
    exact ⟨Z, β, hrun a w, hR.put d (.fn f [] #[] rfl (by simp)) (by simp)⟩
  | global g => exact h.elim
  | tmp t =>
    simp only [rdMv] at h
    split at h
    · obtain ⟨hj, h⟩ := h
      have take : (rdTake d t fun A ws => .ret (ws ++ [.set d A])).Wo e ws → ∃ (Z' : Nat → Option Obj) (β' : List Nat → Option Nat), (execOp a.eval o).run P w = .ok (.value (a.eval (.tmp t))) w ∧ Rep κ Z' β' (apps ws e) (setV (vals a) d (a.eval (.tmp t))) w := by
        intro h
        obtain ⟨A, ws0, hk, _, _, hg⟩ := rdTake_sound h
        have hk' : ws = ws0 ++ [Wr.set d A] := hk
        subst hk'
        obtain ⟨β', hR'⟩ := hg hR
        exact ⟨Z, β', hrun a w, hR'⟩
      cases het : e t with
      | win s p j =>
        simp only [het, head] at h
        rcases h with ⟨_, h⟩ | ⟨_, htd, h⟩
        · exact take h
        · have h' : ws = _ := h
          subst h'
          exact ⟨Z, β, hrun a w, hR.winPut d s p j _ htd (hR.winAt het)⟩
      | _ => simp only [het, head] at h; exact take h
    · obtain ⟨h1, h2⟩ := h
      cases het : e t with
      | own l =>
        simp only [het, head] at h2
        obtain ⟨htd, rfl⟩ := h2
        refine ⟨Z, β, hrun a w, hR.view d t [] _ htd fun A hA hAo => ?_⟩
        simp only [getP, Option.some.injEq] at hA
        subst hA
        exact hR.slot t (own_plain hAo)
      | box l =>
        simp only [het, head] at h2
        obtain ⟨htd, rfl⟩ := h2
        refine ⟨Z, β, hrun a w, hR.view d t [] _ htd fun A hA hAo => ?_⟩
        simp only [getP, Option.some.injEq] at hA
        subst hA
        exact hR.slot t (own_plain hAo)
      | alias s p =>
        simp only [het, head] at h2
        obtain ⟨htd, rfl⟩ := h2
        exact ⟨Z, β, hrun a w, hR.view d s p _ htd (hR.aliasAt het)⟩
      | valias s p =>
        simp only [het, head] at h2
        obtain ⟨htd, rfl⟩ := h2
        exact ⟨Z, β, hrun a w, hR.valiasPut d s p _ htd (hR.valiasAt het)⟩
      | addr s p =>
        simp only [het, head] at h2
        obtain ⟨htd, rfl⟩ := h2
        obtain ⟨q, k, b, rfl, hv, hb⟩ := hR.addrAt het
        refine ⟨Z, β, hrun a w, ?_⟩
        rw [eval_tmp, hv]
        exact hR.addrPut d s q k b htd hb
      | win s p k =>
        simp only [het, head] at h2
        obtain ⟨htd, rfl⟩ := h2
        exact ⟨Z, β, hrun a w, hR.winPut d s p k _ htd (hR.winAt het)⟩
      | omap ks vs =>
        simp only [het, head] at h2
        obtain ⟨htd, rfl⟩ := h2
        refine ⟨Z, β, hrun a w, hR.view d t [] _ htd fun A hA hAo => ?_⟩
        simp only [getP, Option.some.injEq] at hA
        subst hA
        exact hR.slot t (own_plain hAo)
      | orec n l =>
        simp only [het, head] at h2
        obtain ⟨htd, rfl⟩ := h2
        refine ⟨Z, β, hrun a w, hR.view d t [] _ htd fun A hA hAo => ?_⟩
        simp only [getP, Option.some.injEq] at hA
        subst hA
        exact hR.slot t (own_plain hAo)
      | junk => exact absurd het h1
      | _ =>
        simp only [het, head] at h2
        obtain ⟨_, h2⟩ := h2
        simp only [het] at h2
        split at h2
        · rename_i hp
          have h2' : ws = _ := h2
          subst h2'
          exact ⟨Z, β, hrun a w, hR.put d (ORep.toP (hR.slot' het (by simp)) hp) (by simp)⟩
        · exact h2.elim

noncomputable def rdBin (P : Program) (op : BinOp) (T d : Nat) (x y : Operand) : Rd := rdX x fun A => rdX y fun B => match binV P T op A B with
  | some (c, R) => .need c (.ret [.set d R])
  | none => .fail

theorem binV_plain {P : Program} {T : Nat} {op : BinOp} {A B R : AV} {c : Prop} (h : binV P T op A B = some (c, R)) : isP A = true ∧ isP B = true ∧ isP R = true := by
  cases A <;> cases B <;> cases op <;> simp [binV] at h <;> (try (rename_i j _ k _; cases j <;> cases k <;> simp [binV] at h)) <;> (try (obtain ⟨_, rfl⟩ := h)) <;> simp [isP]

theorem rdBin_sound {P : Program} {κ : Con} {o : Oper} {e : Env} {ws : List Wr} {op : BinOp} {T yT d : Nat} {x y : Operand} (ho : o.op = .binOp op T x y yT) (hd : o.dst = some d) (hn : (κ.lim.1 ≤ d ∧ d < κ.lim.2)) (h : (rdBin P op T d x y).Wo e ws) : Does P κ o e ws := by
  obtain ⟨A, h0, -, hA⟩ := rdX_sound h; replace h := h0; clear h0
  obtain ⟨B, h0, -, hB⟩ := rdX_sound h; replace h := h0; clear h0
  split at h
  · rename_i c R hv
    obtain ⟨hc, hw⟩ := h
    have hw' : ws = _ := hw
    subst hw'
    have hp := binV_plain hv
    refine does_value hd hn fun a w Z β hR => ?_
    obtain ⟨u, hu, hRu⟩ := binV_sound hv hc (hA hR hp.1) (hB hR hp.2.1) x y w
    refine ⟨u, w, Z, β, ?_, hR.put d hRu (isP_plain hp.2.2)⟩
    simp only [execOp, ho]
    rw [Sem.run_bind, hu]
    rfl
  · exact h.elim

noncomputable def rdUn (op : UnOp) (d : Nat) (x : Operand) : Rd := rdX x fun A => match op, A with
  | .not, .bool b => .ret [.set d (.bool !b)]
  | .neg, .num .i64 n => .need (in64 (-n)) (.ret [.set d (.num .i64 (-n))])
  | _, _ => .fail

theorem rdUn_sound {P : Program} {κ : Con} {o : Oper} {e : Env} {ws : List Wr} {op : UnOp} {T d : Nat} {x : Operand} (ho : o.op = .unOp op T x) (hd : o.dst = some d) (hn : (κ.lim.1 ≤ d ∧ d < κ.lim.2)) (h : (rdUn op d x).Wo e ws) : Does P κ o e ws := by
  obtain ⟨A, h0, -, hA⟩ := rdX_sound h; replace h := h0; clear h0
  split at h
  · rename_i b
    have hw' : ws = _ := h
    subst hw'
    refine does_value hd hn fun a w Z β hR => ?_
    have h1 := hA hR rfl
    refine ⟨.bool !b, w, Z, β, ?_, hR.put d (.bool _) (by simp)⟩
    simp only [execOp, ho]
    generalize a.eval x = v at h1
    cases h1
    simp [Op.unary]
  · rename_i n
    obtain ⟨hc, hw⟩ := h
    have hw' : ws = _ := hw
    subst hw'
    refine does_value hd hn fun a w Z β hR => ?_
    have h1 := hA hR rfl
    refine ⟨.int .i64 (-n), w, Z, β, ?_, hR.put d (.num _ _) (by simp)⟩
    simp only [execOp, ho]
    generalize a.eval x = v at h1
    cases h1
    simp [Op.unary, Op.intArith, IntWalk.i64_in _ hc]
  · exact h.elim

noncomputable def rdConv (P : Program) (S T d : Nat) (x : Operand) : Rd := rdX x fun A => match A with
  | .num _ n => .need (inT P T = some .i64 ∧ (P.underlying S).isSome = true ∧ in64 n) (.ret [.set d (.num .i64 n)])
  | _ => .fail

theorem inT_spec {P : Program} {T : Nat} {k : IntKind} (h : inT P T = some k) : P.underlying T = some (.int k) := by
  unfold inT at h
  split at h
  · rename_i h0; injection h with h; rw [h0, h]
  · cases h

theorem rdConv_sound {P : Program} {κ : Con} {o : Oper} {e : Env} {ws : List Wr} {S T d : Nat} {x : Operand} (ho : o.op = .convert S T x) (hd : o.dst = some d) (hn : (κ.lim.1 ≤ d ∧ d < κ.lim.2)) (h : (rdConv P S T d x).Wo e ws) : Does P κ o e ws := by
  obtain ⟨A, h0, -, hA⟩ := rdX_sound h; replace h := h0; clear h0
  split at h
  · rename_i k n
    obtain ⟨⟨hT, hS, hc⟩, hw⟩ := h
    have hw' : ws = _ := hw
    subst hw'
    refine does_value hd hn fun a w Z β hR => ?_
    have h1 := hA hR rfl
    refine ⟨.int .i64 n, w, Z, β, ?_, hR.put d (.num _ _) (by simp)⟩
    simp only [execOp, ho]
    generalize a.eval x = v at h1
    cases h1
    obtain ⟨ds, hds⟩ := Option.isSome_iff_exists.1 hS
    simp [convert, run_underlying (inT_spec hT), run_underlying hds, Conv.intToInt, IntWalk.i64_in _ hc]
  · exact h.elim

noncomputable def rdPick (d : Nat) (c x y : Operand) : Rd := rdX c fun C => match C with
  | .bool b => .br (b = true) (rdX x fun A => if isP A then .ret [.set d A] else .fail) (rdX y fun A => if isP A then .ret [.set d A] else .fail)
  | _ => .fail

theorem rdPick_sound {P : Program} {κ : Con} {o : Oper} {e : Env} {ws : List Wr} {d : Nat} {c x y : Operand} (ho : o.op = .pick c x y) (hd : o.dst = some d) (hn : (κ.lim.1 ≤ d ∧ d < κ.lim.2)) (h : (rdPick d c x y).Wo e ws) : Does P κ o e ws := by
  obtain ⟨C, h0, -, hC⟩ := rdX_sound h; replace h := h0; clear h0
  split at h
  · rename_i b
    refine does_value hd hn fun a w Z β hR => ?_
    have h0 := hC hR rfl
    have hrun : (execOp a.eval o).run P w = .ok (.value (if b = true then a.eval x else a.eval y)) w := by
      simp only [execOp, ho]
      generalize a.eval c = v at h0
      cases h0
      simp [asBool]
    rcases h with ⟨hb, h⟩ | ⟨hb, h⟩
    · obtain ⟨A, h0, -, hA⟩ := rdX_sound h; replace h := h0; clear h0
      split at h
      · rename_i hp
        have hw' : ws = _ := h
        subst hw'
        exact ⟨_, w, Z, β, hrun, by rw [if_pos hb]; exact hR.put d (hA hR hp) (isP_plain hp)⟩
      · exact h.elim
    · obtain ⟨A, h0, -, hA⟩ := rdX_sound h; replace h := h0; clear h0
      split at h
      · rename_i hp
        have hw' : ws = _ := h
        subst hw'
        exact ⟨_, w, Z, β, hrun, by rw [if_neg hb]; exact hR.put d (hA hR hp) (isP_plain hp)⟩
      · exact h.elim
  · exact h.elim

end Go.Proofs.Ytehdfifncbokeaa

namespace Go.Proofs.Ytehdfifncbokeaa
set_option linter.unusedSimpArgs false
set_option linter.unusedVariables false
set_option maxRecDepth 8000
set_option maxHeartbeats 2000000
open Go Go.RowKit AV

def blk : AV → Bool
  | .own _ => true
  | .orec _ _ => true
  | .box _ => true
  | _ => false

theorem blk_own {A : AV} (h : blk A = true) : isOwn A = true := by cases A <;> simp_all [blk, isOwn]

theorem PRep.plain {Z A v} (h : PRep Z A v) : ∀ s p, A ≠ .alias s p ∧ A ≠ .valias s p ∧ A ≠ .addr s p ∧ ∀ k, A ≠ .win s p k := by
  intro s p; cases h <;> simp

theorem ORep.cell {Z : Nat → Option Obj} {H : Array Obj} {β : List Nat → Option Nat} {p : List Nat} {C A : AV} {u : Value} {k b : Nat} (h : ORep Z H β p C u) (hC : blk C = true) (hk : getP C [k] = some A) (hb : β p = some b) :
    ∃ cs T x, H[b]? = some (.cells cs T (0, 0)) ∧ cs[k]? = some x ∧ x.oneCell' = true ∧ ORep Z H β (p ++ [k]) A x := by
  cases h with
  | pers h => have := h.noOwn; rw [blk_own hC] at this; cases this
  | nil => simp [getP, kids] at hk
  | own l b' c cs T us hb' hz h1 h2 h3 hu h4 hkk =>
    rw [hb] at hb'; injection hb' with hb'; subst hb'
    simp only [getP, kids] at hk
    split at hk
    · rename_i a ha
      simp only [Option.some.injEq] at hk
      subst hk
      obtain ⟨hlt, rfl⟩ := List.getElem?_eq_some_iff.1 ha
      exact ⟨cs, T, us k, hz, hu k hlt, h4 k hlt, hkk k hlt⟩
    · cases hk
  | rnil => simp [getP, kids] at hk
  | orec n m l b' c cs T us hb' hz hl h1 h2 h3 hu h4 hkk =>
    rw [hb] at hb'; injection hb' with hb'; subst hb'
    simp only [getP, kids] at hk
    split at hk
    · rename_i a ha
      simp only [Option.some.injEq] at hk
      subst hk
      obtain ⟨hlt, rfl⟩ := List.getElem?_eq_some_iff.1 ha
      exact ⟨cs, T, us k, hz, hu k hlt, h4 k hlt, hkk k hlt⟩
    · cases hk
  | box l b' cs T hb' hz h1 h4 hkk =>
    rw [hb] at hb'; injection hb' with hb'; subst hb'
    simp only [getP, kids] at hk
    split at hk
    · rename_i a ha
      simp only [Option.some.injEq] at hk
      subst hk
      obtain ⟨hlt, rfl⟩ := List.getElem?_eq_some_iff.1 ha
      have hlt' : k < cs.size := by omega
      have hg : cs[k]? = some (cs.getD k undef) := by simp [hlt']
      exact ⟨cs, T, cs.getD k undef, hz, hg, h4 k hlt, hkk k hlt⟩
    · cases hk
  | agg => simp [blk] at hC
  | tup => simp [blk] at hC
  | omap => simp [blk] at hC
  | oiter => simp [blk] at hC
  | memo => simp [blk] at hC

theorem aggT_false {P : Program} {T : Nat} (h : aggT P T = some false) : ∃ D, P.underlying T = some D ∧ (match D with | .struct _ | .array _ _ => true | _ => false) = false := by
  unfold aggT at h
  cases hD : P.underlying T with
  | none => simp [hD] at h
  | some D => cases D <;> simp_all
theorem aggT_true {P : Program} {T : Nat} (h : aggT P T = some true) : ∃ fs, P.underlying T = some (.struct fs) := by
  unfold aggT at h
  cases hD : P.underlying T with
  | none => simp [hD] at h
  | some D => cases D <;> simp_all

section
variable {P : Program} {w : World} {T : Nat}
theorem run_isAgg_false (h : aggT P T = some false) : (isAgg T).run P w = .ok false w := by
  obtain ⟨D, hD, hm⟩ := aggT_false h
  cases D <;> simp_all [isAgg, run_underlying hD]
theorem szT_spec {n : Nat} (h : szT P T = some n) : ∃ i, P.info? T = some i ∧ i.size = n := by
  unfold szT at h
  cases hi : P.info? T with
  | none => simp [hi] at h
  | some i => simp [hi] at h; exact ⟨i, rfl, h⟩
theorem run_loadAt_one' {ad : Addr} {u : Value} (h : aggT P T = some false) (hc : w.cell? ad = some u) : (Instr.loadAt T (.pointer (some ad))).run P w = .ok u w := by
  simp [Instr.loadAt, Instr.sureAddr, loadVar, run_isAgg_false h, hc]
theorem run_loadAt_agg' {b : Nat} {cs : Array Value} {E fz} (h : aggT P T = some true) (hs : szT P T = some cs.size) (hc : w.heap[b]? = some (.cells cs E fz)) : (Instr.loadAt T (.pointer (some ⟨b, 0, none⟩))).run P w = .ok (.agg cs) w := by
  obtain ⟨fs, hD⟩ := aggT_true h
  have := run_loadVar_row (P := P) w b E T cs fz _ hc hD rfl hs
  simp [Instr.loadAt, Instr.sureAddr, this]
end

def mvK (t d : Nat) : List Nat → Option (List Nat)
  | [] => none
  | [x] => if x = d then none else some [x]
  | x :: k :: r => if x = d then some (t :: k :: r) else if x = t then none else some (x :: k :: r)

theorem mvK_inj (t d : Nat) : ∀ r1 r2 x, mvK t d r1 = some x → mvK t d r2 = some x → r1 = r2 := by
  intro r1 r2 x h1 h2
  rcases r1 with _ | ⟨a, _ | ⟨k, r1⟩⟩ <;> rcases r2 with _ | ⟨b, _ | ⟨j, r2⟩⟩ <;> simp only [mvK, reduceCtorEq] at h1 h2
  · split at h1 <;> split at h2 <;> simp_all
  · split at h1 <;> split at h2 <;> (try split at h2) <;> simp_all <;> subst h1 <;> simp_all
  · split at h1 <;> split at h2 <;> (try split at h1) <;> simp_all <;> subst h2 <;> simp_all
  · split at h1 <;> split at h2 <;> (try split at h1) <;> (try split at h2) <;> simp_all <;> subst h1 <;> simp_all

theorem Rep.giveBox {κ : Con} {Z : Nat → Option Obj} {β : List Nat → Option Nat} {e : Env} {val : Nat → Value} {w : World} (h : Rep κ Z β e val w) {t d : Nat} (htd : t ≠ d) {l : List AV} (he : e t = .box l) :
    ∃ β' b cs T, val t = .pointer (some ⟨b, 0, none⟩) ∧ w.heap[b]? = some (.cells cs T (0, 0)) ∧ cs.size = l.length ∧ Rep κ Z β' (apps [.set d .junk, .mod t [] (.box (l.map fun _ => .junk)), .set d (.agg l)] e) (setV val d (.agg cs)) w := by
  have hs := h.slot' he (by simp)
  generalize hv : val t = v at hs
  cases hs with
  | pers h => cases h
  | box l b cs T hb hz h1 h4 hk =>
    have h0 := h.put d (A := .junk) (u := undef) (.junk _) (by simp)
    have e1 : (Wr.set d AV.junk).app e t = .box l := by simp [Wr.app, upd, isOwn, htd, he]
    have h2 := h0.mod t [] (.box l) (.box (l.map fun _ => .junk)) (by rw [e1]; rfl) (by rw [e1]; simp) (by simp) (by rw [e1]; simp) (β' := viaF (mvK t d) β) rfl rfl rfl (Nat.le_refl _) (fun _ _ _ => rfl) (fun _ _ h => h) (fun _ _ h => .inl h) h.zh
      (fun r b hr hj hn hb => ⟨by
        rcases r with _ | ⟨x, _ | ⟨k, r⟩⟩
        · exact absurd rfl hr
        · have hxd : ¬ x = d := by rintro rfl; exact hj (by simp [root, Wr.app, upd, isOwn])
          simpa [viaF, mvK, hxd] using hb
        · have hxd : ¬ x = d := by rintro rfl; exact hj (by simp [root, Wr.app, upd, isOwn])
          have hxt : ¬ x = t := by rintro rfl; exact hn (by simp)
          simpa [viaF, mvK, hxd, hxt] using hb, rfl⟩)
      (viaF_inj (mvK_inj _ _) h.inj) (viaF_bo h.bo) (fun u hu => by
        generalize hB : AV.box l = B at hu
        cases hu with
        | pers h => subst hB; cases h
        | box l' b' cs' T' hb' hz' h1' h4' hk' =>
          injection hB with hB; subst hB
          refine .box _ b' cs' T' ?_ hz' (by simpa using h1') (fun k hk => h4' k (by simpa using hk)) (fun k hk => ?_)
          · simpa [viaF, mvK, htd] using hb'
          · simp only [List.getElem_map]; exact .pers (.junk _)
        | _ => cases hB) (by intro _ q C hq hne; simp at hq; exact absurd hq hne)
    have h3 := h2.big [d] d (by simp) (.agg l) (.agg cs) rfl rfl rfl (Nat.le_refl _) (fun _ _ _ => rfl) (fun _ _ h => h) (fun _ _ h => .inl h) h.zh (fun r b _ _ hb => ⟨hb, rfl⟩) h2.inj h2.bo (by
      refine .agg l cs h1 fun k hk' => ?_
      refine (hk k hk').move (fun _ _ h => h) fun r b hb => ⟨?_, rfl⟩
      simpa [viaF, mvK] using hb) (by simp)
    refine ⟨viaF (mvK t d) β, b, cs, T, rfl, hz, h1, ?_⟩
    rw [app_set_drop] at h3
    have : setV (setV val d undef) d (.agg cs) = setV val d (.agg cs) := by funext t; simp only [setV]; split <;> rfl
    rw [this] at h3
    exact h3

noncomputable def rdLoad (P : Program) (tr : Bool) (T d : Nat) (addr : Operand) : Rd := match addr with
  | .tmp t => .peek t fun h => match h with
    | .addr s q => .need (aggT P T = some false ∧ s ≠ d) (.get s fun c => rdGetP c q.dropLast fun C => .need (blk C = true) (rdGetP c q fun A =>
        (if isP A then .ret [.set d A] else if isOwn A then (if tr then .ret [.set d .junk, .mod s q .junk, .set d A] else .ret [.set d (.alias s q)]) else .fail)))
    | .pcell _ => .get t fun v => match v with
      | .pcell x => .need (aggT P T = some false) (.ret [.set d x])
      | _ => .fail
    | .pbox _ => .get t fun v => match v with
      | .pbox l => (match aggT P T with
        | some true => .need (szT P T = some l.length) (.ret [.set d (.agg l)])
        | some false => (match l with
          | [x] => .ret [.set d x]
          | _ => .fail)
        | none => .fail)
      | _ => .fail
    | .box _ => .need (t ≠ d) (.get t fun v => match v with
      | .box l => (match aggT P T with
        | some true => .need (szT P T = some l.length) (if allP l then .ret [.set d (.agg l)] else if tr then .ret [.set d .junk, .mod t [] (.box (l.map fun _ => .junk)), .set d (.agg l)] else .ret [.set d (.valias t [])])
        | some false => (match l with
          | [x] => if isP x then .ret [.set d x] else if isOwn x then (if tr then .ret [.set d .junk, .mod t [0] .junk, .set d x] else .ret [.set d (.alias t [0])]) else .fail
          | _ => .fail)
        | none => .fail)
      | _ => .fail)
    | .alias s p => .need (s ≠ d) (.get s fun c => rdGetP c p fun X => match X with
      | .box l => (match aggT P T with
        | some true => .need (szT P T = some l.length) (if allP l then .ret [.set d (.agg l)] else .ret [.set d (.valias s p)])
        | some false => (match l with
          | [x] => if isP x then .ret [.set d x] else if isOwn x && !tr then .ret [.set d (.alias s (p ++ [0]))] else .fail
          | _ => .fail)
        | none => .fail)
      | _ => .fail)
    | _ => .fail
  | _ => .fail

def aggAt (n off : Nat) (cs : Array Value) : Array Value := ((List.range n).map fun k => cs.getD (off + k) undef).toArray
theorem aggAt_spec (n off : Nat) (cs : Array Value) : (aggAt n off cs).size = n ∧ ∀ k, k < n → (aggAt n off cs).getD k undef = cs.getD (off + k) undef := by
  refine ⟨by simp [aggAt], fun k hk => ?_⟩
  simp [aggAt, Array.getD_eq_getD_getElem?, hk]
theorem run_loadAt_aggR {P : Program} {w : World} {T b off n : Nat} {cs : Array Value} {E fz} (h : aggT P T = some true) (hs : szT P T = some n) (hc : w.heap[b]? = some (.cells cs E fz)) (hn : off + n ≤ cs.size) :
    (Instr.loadAt T (.pointer (some ⟨b, off, none⟩))).run P w = .ok (.agg (aggAt n off cs)) w := by
  obtain ⟨D, hu, hD⟩ : ∃ D, P.underlying T = some D ∧ D.isRow = true := by
    unfold aggT at h
    cases hD : P.underlying T with
    | none => simp [hD] at h
    | some D => cases D <;> simp_all [TypeDesc.isRow]
  refine run_loadAt_mid w b off T _ D (fun j v hj => ?_) hu hD (by simpa [szT] using hs)
  have hjn : j < n := by have := (List.getElem?_eq_some_iff.1 hj).1; simpa using this
  rw [cell_of_row w b _ cs E fz hc]
  have hlt : off + j < cs.size := by omega
  simp [hjn] at hj
  rw [← hj]
  simp [Array.getD_eq_getD_getElem?, hlt]

theorem cell_heap {w : World} {b o : Nat} {cs : Array Value} {T fz} {u : Value} (h : w.heap[b]? = some (.cells cs T fz)) (hu : cs[o]? = some u) : w.cell? ⟨b, o, none⟩ = some u := (cell_of_row w b o cs T fz h).trans hu

theorem rdLoad_sound {P : Program} {κ : Con} {o : Oper} {e : Env} {ws : List Wr} {tr : Bool} {T d : Nat} {x : Operand} (ho : o.op = .load T x) (hd : o.dst = some d) (hn : (κ.lim.1 ≤ d ∧ d < κ.lim.2)) (h : (rdLoad P tr T d x).Wo e ws) : Does P κ o e ws := by
  have hrun : ∀ (a : Act) (w : World) (u : Value), (Instr.loadAt T (a.eval x)).run P w = .ok u w → (execOp a.eval o).run P w = .ok (.value u) w := by
    intro a w u hu
    simp only [execOp, ho]
    rw [Sem.run_bind, hu]
    rfl
  cases x with
  | tmp t =>
    obtain ⟨hj, h⟩ := h
    refine does_value hd hn fun a w Z β hR => ?_
    cases het : e t with
    | addr s q =>
      simp only [het, head] at h
      obtain ⟨⟨hT, hsd⟩, hsj, C, hC, hCb, A, hA, h⟩ := h
      obtain ⟨q0, k, b, rfl, hv, hb⟩ := hR.addrAt het
      rw [List.dropLast_concat] at hC
      have hCo := blk_own hCb
      have hpl := plain_of_own hC hCo
      have hk : getP C [k] = some A := by rw [← getP_append q0 [k] hC]; exact hA
      obtain ⟨u0, hu0, _⟩ := ORep.place q0 (hR.slot s hpl.2) hC
      obtain ⟨cs, E, u, hz, hcu, h1, hAu⟩ := ORep.cell hu0 hCb hk (hb C hC hCo)
      have hload := hrun a w u (by rw [eval_tmp, hv]; exact run_loadAt_one' hT (cell_heap hz hcu))
      have hAu' : ORep Z w.heap β (s :: (q0 ++ [k])) A u := by simpa using hAu
      dsimp only at h
      split at h
      · rename_i hp
        have h' : ws = _ := h
        subst h'
        exact ⟨u, w, Z, β, hload, hR.put d (hAu'.toP hp) (isP_plain hp)⟩
      · split at h
        · rename_i hAo
          split at h
          · have h' : ws = _ := h
            subst h'
            obtain ⟨β', hR'⟩ := hR.giveP hsd hA hpl.2 (own_plain hAo) hsj hAu'
            exact ⟨u, w, Z, β', hload, hR'⟩
          · have h' : ws = _ := h
            subst h'
            refine ⟨u, w, Z, β, hload, hR.view d s _ u hsd fun A2 hA2 _ => ?_⟩
            rw [hA] at hA2
            injection hA2 with hA2
            exact hA2 ▸ hAu'
        · exact h.elim
    | pcell v =>
      simp only [het, head] at h
      obtain ⟨_, h⟩ := h
      simp only [het] at h
      obtain ⟨hT, h⟩ := h
      have h' : ws = _ := h
      subst h'
      have hp := ORep.toP (hR.slot' het (by simp)) rfl
      generalize hvv : vals a t = vv at hp
      cases hp with
      | pcell v b o cs E fz u hz hu h3 hk =>
        exact ⟨u, w, Z, β, hrun a w u (by rw [eval_tmp, hvv]; exact run_loadAt_one' hT (cell_heap (hR.zh _ _ hz) hu)), hR.put d hk hk.plain⟩
    | pbox l =>
      simp only [het, head] at h
      obtain ⟨_, h⟩ := h
      simp only [het] at h
      have hp := ORep.toP (hR.slot' het (by simp)) rfl
      generalize hvv : vals a t = vv at hp
      cases hp with
      | pbox l b off cs E fz hz h1 h3 hk =>
        cases hT : aggT P T with
        | none => simp only [hT] at h; exact h.elim
        | some ag =>
          cases ag with
          | true =>
            simp only [hT] at h
            obtain ⟨hs, h⟩ := h
            have h' : ws = _ := h
            subst h'
            obtain ⟨hsz, hgd⟩ := aggAt_spec l.length off cs
            exact ⟨.agg (aggAt l.length off cs), w, Z, β, hrun a w _ (by rw [eval_tmp, hvv]; exact run_loadAt_aggR hT hs (hR.zh _ _ hz) h1), hR.put d (.agg l _ hsz fun k hk' => by rw [hgd k hk']; exact hk k hk') (by simp)⟩
          | false =>
            simp only [hT] at h
            split at h
            · rename_i x
              have h' : ws = _ := h
              subst h'
              have hk0 := hk 0 (by simp)
              have hg : cs[off]? = some (cs.getD (off + 0) undef) := by simp at h1; have : off < cs.size := by omega
                                                                        simp [this]
              exact ⟨_, w, Z, β, hrun a w _ (by rw [eval_tmp, hvv]; exact run_loadAt_one' hT (cell_heap (hR.zh _ _ hz) hg)), hR.put d hk0 (PRep.plain hk0)⟩
            · exact h.elim
    | box l =>
      simp only [het, head] at h
      obtain ⟨htd, _, h⟩ := h
      simp only [het] at h
      have hs0 := hR.slot' het (by simp)
      generalize hvv : vals a t = vv at hs0
      cases hs0 with
      | pers h => cases h
      | box l b cs E hb hz h1 h4 hk =>
        cases hT : aggT P T with
        | none => simp only [hT] at h; exact h.elim
        | some ag =>
          cases ag with
          | true =>
            simp only [hT] at h
            obtain ⟨hs, h⟩ := h
            have hload := hrun a w (.agg cs) (by rw [eval_tmp, hvv]; exact run_loadAt_agg' hT (by rw [hs, h1]) hz)
            split at h
            · rename_i hp
              have h' : ws = _ := h
              subst h'
              refine ⟨.agg cs, w, Z, β, hload, hR.put d (.agg l cs h1 fun k hk' => (hk k hk').toP ((allP_iff l).1 hp _ (List.getElem_mem hk'))) (by simp)⟩
            · split at h
              · have h' : ws = _ := h
                subst h'
                obtain ⟨β', b', cs', E', hv', hz', h1', hR'⟩ := hR.giveBox htd het
                rw [hvv] at hv'
                injection hv' with hv'; injection hv' with hv'; injection hv' with hv'
                subst hv'
                rw [hz] at hz'
                injection hz' with hz'; injection hz' with hz'
                subst hz'
                exact ⟨.agg cs, w, Z, β', hload, hR'⟩
              · have h' : ws = _ := h
                subst h'
                refine ⟨.agg cs, w, Z, β, hload, hR.valiasPut d t [] _ htd fun l' hl' => ?_⟩
                rw [het] at hl'
                simp only [getP, Option.some.injEq, AV.box.injEq] at hl'
                subst hl'
                exact ⟨cs, rfl, .agg l cs h1 hk, b, _, hb, hz⟩
          | false =>
            simp only [hT] at h
            split at h
            · rename_i x
              have hk0 := hk 0 (by simp)
              have hg : cs[0]? = some (cs.getD 0 undef) := by simp at h1; simp [h1]
              have hload := hrun a w _ (by rw [eval_tmp, hvv]; exact run_loadAt_one' hT (cell_heap hz hg))
              have hgp : getP (e t) [0] = some x := by rw [het]; rfl
              split at h
              · rename_i hp
                have h' : ws = _ := h
                subst h'
                exact ⟨_, w, Z, β, hload, hR.put d (ORep.toP hk0 hp) (isP_plain hp)⟩
              · split at h
                · rename_i hAo
                  split at h
                  · have h' : ws = _ := h
                    subst h'
                    obtain ⟨β', hR'⟩ := hR.giveP (u := cs.getD 0 undef) htd hgp (by rw [het]; simp) (own_plain hAo) (by rw [het]; simp) (by simpa using hk0)
                    exact ⟨_, w, Z, β', hload, hR'⟩
                  · have h' : ws = _ := h
                    subst h'
                    refine ⟨_, w, Z, β, hload, hR.view d t _ _ htd fun A2 hA2 _ => ?_⟩
                    rw [hgp] at hA2
                    injection hA2 with hA2
                    exact hA2 ▸ (by simpa using hk0)
                · exact h.elim
            · exact h.elim
    | alias s p =>
      simp only [het, head] at h
      obtain ⟨hsd, hsj, X, hl, h⟩ := h
      dsimp only at h
      split at h
      case h_2 => exact h.elim
      rename_i l
      have hs0 := hR.aliasAt het _ hl rfl
      generalize hvv : vals a t = vv at hs0
      cases hs0 with
      | pers h => cases h
      | box l b cs E hb hz h1 h4 hk =>
        cases hT : aggT P T with
        | none => simp only [hT] at h; exact h.elim
        | some ag =>
          cases ag with
          | true =>
            simp only [hT] at h
            obtain ⟨hs, h⟩ := h
            have hload := hrun a w (.agg cs) (by rw [eval_tmp, hvv]; exact run_loadAt_agg' hT (by rw [hs, h1]) hz)
            split at h
            · rename_i hp
              have h' : ws = _ := h
              subst h'
              refine ⟨.agg cs, w, Z, β, hload, hR.put d (.agg l cs h1 fun k hk' => (hk k hk').toP ((allP_iff l).1 hp _ (List.getElem_mem hk'))) (by simp)⟩
            · have h' : ws = _ := h
              subst h'
              refine ⟨.agg cs, w, Z, β, hload, hR.valiasPut d s p _ hsd fun l' hl' => ?_⟩
              rw [hl] at hl'
              simp only [Option.some.injEq, AV.box.injEq] at hl'
              subst hl'
              exact ⟨cs, rfl, .agg l cs h1 hk, b, _, hb, hz⟩
          | false =>
            simp only [hT] at h
            split at h
            · rename_i x
              have hk0 := hk 0 (by simp)
              have hg : cs[0]? = some (cs.getD 0 undef) := by simp at h1; simp [h1]
              have hload := hrun a w _ (by rw [eval_tmp, hvv]; exact run_loadAt_one' hT (cell_heap hz hg))
              split at h
              · rename_i hp
                have h' : ws = _ := h
                subst h'
                exact ⟨_, w, Z, β, hload, hR.put d (ORep.toP hk0 hp) (isP_plain hp)⟩
              · split at h
                · have h' : ws = _ := h
                  subst h'
                  refine ⟨_, w, Z, β, hload, hR.view d s _ _ hsd fun A2 hA2 _ => ?_⟩
                  rw [getP_append p [0] hl] at hA2
                  simp only [getP, kids, List.getElem?_cons_zero, Option.some.injEq] at hA2
                  exact hA2 ▸ (by simpa using hk0)
                · exact h.elim
            · exact h.elim
    | _ => simp only [het, head] at h; exact h.elim
  | _ => exact h.elim

noncomputable def rdField (P : Program) (T d : Nat) (x : Operand) (f : Nat) : Rd := match x with
  | .tmp t => match stO P T f with
    | some off => .peek t fun h => match h with
      | .box _ => .need (t ≠ d) (.ret [.set d (.addr t [off])])
      | .alias s q => .need (s ≠ d) (.get s fun c => rdGetP c q fun X => match X with
        | .box _ => .ret [.set d (.addr s (q ++ [off]))]
        | _ => .fail)
      | .pbox _ => .get t fun v => match v with
        | .pbox l => rdIdx l off fun a => .ret [.set d (.pcell a)]
        | _ => .fail
      | _ => .fail
    | none => .fail
  | _ => .fail

theorem stO_spec {P : Program} {T f off : Nat} (h : stO P T f = some off) : ∃ fs fl, P.underlying T = some (.struct fs) ∧ fs[f]? = some fl ∧ fl.offset = off ∧ szT P fl.type = some 1 ∧ aggT P fl.type = some false := by
  unfold stO at h
  split at h
  · rename_i fs hfs
    split at h
    · rename_i fl hfl
      split at h
      · rename_i hc
        injection h with h
        exact ⟨fs, fl, hfs, hfl, h, hc.1, hc.2⟩
      · cases h
    · cases h
  · cases h

theorem run_fieldAt' {P : Program} {w : World} {T f off b k : Nat} (h : stO P T f = some off) (h0 : off = 0 ∨ k = 0) : (Instr.fieldAt T (.pointer (some ⟨b, k, none⟩)) f).run P w = .ok (.pointer (some ⟨b, k + off, none⟩)) w := by
  obtain ⟨fs, fl, hu, hf, ho, hs, ha⟩ := stO_spec h
  obtain ⟨i, hi, hi1⟩ := szT_spec hs
  have hadd : (⟨b, k, none⟩ : Addr).add off = ⟨b, k + off, none⟩ := by unfold Addr.add; split <;> simp_all
  simp [Instr.fieldAt, run_underlying hu, hf, Instr.sureAddr, fieldPlace, sizeOf, typeInfo, hi, hi1, ho, hadd]

theorem run_fieldAtR {P : Program} {w : World} {T f off b k : Nat} (h : stO P T f = some off) : (Instr.fieldAt T (.pointer (some ⟨b, k, none⟩)) f).run P w = .ok (.pointer (some ⟨b, k + off, none⟩)) w := by
  obtain ⟨fs, fl, hu, hf, ho, hs, ha⟩ := stO_spec h
  obtain ⟨i, hi, hi1⟩ := szT_spec hs
  have hadd : (⟨b, k, none⟩ : Addr).add off = ⟨b, k + off, none⟩ := by unfold Addr.add; split <;> simp_all
  simp [Instr.fieldAt, run_underlying hu, hf, Instr.sureAddr, fieldPlace, sizeOf, typeInfo, hi, hi1, ho, hadd]

theorem rdField_sound {P : Program} {κ : Con} {o : Oper} {e : Env} {ws : List Wr} {T d f : Nat} {x : Operand} (ho : o.op = .fieldAddr T x f) (hd : o.dst = some d) (hn : (κ.lim.1 ≤ d ∧ d < κ.lim.2)) (h : (rdField P T d x f).Wo e ws) : Does P κ o e ws := by
  have hrun : ∀ (a : Act) (w : World) (u : Value), (Instr.fieldAt T (a.eval x) f).run P w = .ok u w → (execOp a.eval o).run P w = .ok (.value u) w := by
    intro a w u hu
    simp only [execOp, ho]
    rw [Sem.run_bind, hu]
    rfl
  cases x with
  | tmp t =>
    simp only [rdField] at h
    split at h
    case h_2 => exact h.elim
    rename_i off hoff
    obtain ⟨hj, h⟩ := h
    refine does_value hd hn fun a w Z β hR => ?_
    cases het : e t with
    | box l =>
      simp only [het, head] at h
      obtain ⟨htd, h⟩ := h
      have h' : ws = _ := h
      subst h'
      have hs0 := hR.slot' het (by simp)
      generalize hvv : vals a t = vv at hs0
      cases hs0 with
      | pers h => cases h
      | box l b cs E hb hz h1 h4 hk =>
        refine ⟨_, w, Z, β, hrun a w (.pointer (some ⟨b, off, none⟩)) (by rw [eval_tmp, hvv]; simpa using run_fieldAt' (b := b) (k := 0) hoff (.inr rfl)), ?_⟩
        refine hR.addrPut d t [] off b htd fun A hA hAo => ?_
        exact hb
    | alias s q =>
      simp only [het, head] at h
      obtain ⟨hsd, _, X, hl, h⟩ := h
      dsimp only at h
      split at h
      case h_2 => exact h.elim
      have h' : ws = _ := h
      subst h'
      have hs0 := hR.aliasAt het _ hl rfl
      generalize hvv : vals a t = vv at hs0
      cases hs0 with
      | pers h => cases h
      | box l b cs E hb hz h1 h4 hk =>
        refine ⟨_, w, Z, β, hrun a w (.pointer (some ⟨b, off, none⟩)) (by rw [eval_tmp, hvv]; simpa using run_fieldAt' (b := b) (k := 0) hoff (.inr rfl)), ?_⟩
        refine hR.addrPut d s q off b hsd fun A hA hAo => ?_
        exact hb
    | pbox l =>
      simp only [het, head] at h
      obtain ⟨_, h⟩ := h
      simp only [het] at h
      obtain ⟨A, hA, h⟩ := h
      have h' : ws = _ := h
      subst h'
      have hp := ORep.toP (hR.slot' het (by simp)) rfl
      generalize hvv : vals a t = vv at hp
      cases hp with
      | pbox l b o0 cs E fz hz h1 h3 hk =>
        obtain ⟨hlt, rfl⟩ := List.getElem?_eq_some_iff.1 hA
        have hg : cs[o0 + off]? = some (cs.getD (o0 + off) undef) := by have : o0 + off < cs.size := by omega
                                                                        simp [this]
        exact ⟨_, w, Z, β, hrun a w (.pointer (some ⟨b, o0 + off, none⟩)) (by rw [eval_tmp, hvv]; exact run_fieldAtR (b := b) (k := o0) hoff), hR.put d (.pcell _ b (o0 + off) cs E fz.1 _ hz hg (h3 off hlt) (hk off hlt)) (by simp)⟩
    | _ => simp only [het, head] at h; exact h.elim
  | _ => exact h.elim

noncomputable def rdIndex (P : Program) (T d : Nat) (x i : Operand) : Rd := match x with
  | .tmp t => .need (slOK P T = true) (rdX i fun I => match I with
    | .num _ n => .peek t fun h => match h with
      | .own _ => .need (t ≠ d) (.get t fun v => match v with
        | .own l => .need (0 ≤ n ∧ n.toNat < l.length) (.ret [.set d (.addr t [n.toNat])])
        | _ => .fail)
      | .alias s q => .need (s ≠ d) (.get s fun c => rdGetP c q fun X => match X with
        | .own l => .need (0 ≤ n ∧ n.toNat < l.length) (.ret [.set d (.addr s (q ++ [n.toNat]))])
        | _ => .fail)
      | .sh _ => .get t fun v => match v with
        | .sh l => .need (0 ≤ n) (rdIdx l n.toNat fun a => .ret [.set d (.pcell a)])
        | _ => .fail
      | .win s q k => .need (s ≠ d) (.get s fun c => rdGetP c q fun X => match X with
        | .own l => .need (0 ≤ n ∧ k + n.toNat < l.length) (.ret [.set d (.addr s (q ++ [k + n.toNat]))])
        | _ => .fail)
      | _ => .fail
    | _ => .fail)
  | _ => .fail

theorem ORep.win {Z H β p l u} (h : ORep Z H β p (.own l) u) {k : Nat} (hk : k < l.length) : ∃ b c cs T, ∃ us : Nat → Value, dropV k u = .slice (some ⟨b, k, none⟩) (l.length - k) (c - k) ∧ β p = some b ∧ H[b]? = some (.cells cs T (0, 0)) ∧ l.length ≤ c ∧ c = cs.size ∧ c ≤ maxLen ∧
    (∀ k, k < l.length → cs[k]? = some (us k)) ∧ (∀ k, k < l.length → (us k).oneCell' = true) ∧ ∀ k (h : k < l.length), ORep Z H β (p ++ [k]) l[k] (us k) := by
  cases h with
  | pers h => cases h
  | nil => simp at hk
  | own l b c cs T us hb hz h1 h2 h3 hu h4 hkk =>
    refine ⟨b, c, cs, T, us, ?_, hb, hz, h1, h2, h3, hu, h4, hkk⟩
    have hadd : (⟨b, 0, none⟩ : Addr).add k = ⟨b, k, none⟩ := by unfold Addr.add; split <;> simp_all
    have hm : maxLen < bigW := bigW_max
    simp only [dropV]
    rw [if_pos (by omega), if_neg (by omega)]
    simp [hadd]
theorem ORep.winLen {Z H β p l u} (h : ORep Z H β p (.own l) u) {k : Nat} (hk : k < bigW) : ∃ A c, dropV k u = .slice A (l.length - k) c := by
  cases h with
  | pers h => cases h
  | nil => exact ⟨_, _, by simp only [dropV]; rw [if_pos hk]; rfl⟩
  | own l b c => exact ⟨_, _, by simp only [dropV]; rw [if_pos hk]⟩

theorem slOK_spec {P : Program} {T : Nat} (h : slOK P T = true) : ∃ E i z, P.underlying T = some (.slice E) ∧ P.info? E = some i ∧ i.size = 1 ∧ i.bytes ≤ 64 ∧ i.zero = some z ∧ z.oneCell' = true := by
  unfold slOK slE elOK at h
  cases hu : P.underlying T with
  | none => simp [hu] at h
  | some D =>
    cases D <;> simp [hu] at h
    rename_i E
    cases hi : P.info? E with
    | none => simp [hi] at h
    | some i =>
      simp [hi] at h
      obtain ⟨⟨h1, h2⟩, h3⟩ := h
      cases hz : i.zero with
      | none => simp [hz] at h3
      | some z => simp [hz] at h3; exact ⟨E, i, z, rfl, hi, h1, h2, hz, h3⟩

theorem run_indexAt' {P : Program} {w : World} {T b o len c : Nat} {k : IntKind} {n : Int} (h : slOK P T = true) (h0 : 0 ≤ n) (h1 : n.toNat < len) :
    (Instr.indexAt T (.slice (some ⟨b, o, none⟩) len c) (.int k n)).run P w = .ok (.pointer (some ⟨b, o + n.toNat, none⟩)) w := by
  obtain ⟨E, i, z, hu, hi, hi1, _, _, _⟩ := slOK_spec h
  have hadd : (⟨b, o, none⟩ : Addr).add n.toNat = ⟨b, o + n.toNat, none⟩ := by unfold Addr.add; split <;> simp_all
  have h2 : n < len := by omega
  simp [Instr.indexAt, asIntOf, run_underlying hu, h0, h2, sizeOf, typeInfo, hi, hi1, hadd]

theorem rdIndex_sound {P : Program} {κ : Con} {o : Oper} {e : Env} {ws : List Wr} {T d : Nat} {x i : Operand} (ho : o.op = .indexAddr T x i) (hd : o.dst = some d) (hn : (κ.lim.1 ≤ d ∧ d < κ.lim.2)) (h : (rdIndex P T d x i).Wo e ws) : Does P κ o e ws := by
  have hrun : ∀ (a : Act) (w : World) (u : Value), (Instr.indexAt T (a.eval x) (a.eval i)).run P w = .ok u w → (execOp a.eval o).run P w = .ok (.value u) w := by
    intro a w u hu
    simp only [execOp, ho]
    rw [Sem.run_bind, hu]
    rfl
  cases x with
  | tmp t =>
    obtain ⟨hT, h⟩ := h
    obtain ⟨I, h, -, hI⟩ := rdX_sound h
    cases I with
    | num k n =>
      obtain ⟨hj, h⟩ := h
      refine does_value hd hn fun a w Z β hR => ?_
      have hiv := hI hR rfl
      generalize hie : a.eval i = iv at hiv
      cases hiv
      cases het : e t with
      | own l =>
        simp only [het, head] at h
        obtain ⟨htd, _, h⟩ := h
        simp only [het] at h
        obtain ⟨⟨h0, h1⟩, h⟩ := h
        have h' : ws = _ := h
        subst h'
        have hs0 := hR.slot' het (by simp)
        generalize hvv : vals a t = vv at hs0
        cases hs0 with
        | pers h => cases h
        | nil => simp at h1
        | own l b c cs E us hb hz h1' h2 h3 hu h4 hk =>
          refine ⟨_, w, Z, β, hrun a w (.pointer (some ⟨b, n.toNat, none⟩)) (by rw [eval_tmp, hvv, hie]; simpa using run_indexAt' (b := b) (o := 0) (c := c) hT h0 h1), ?_⟩
          exact hR.addrPut d t [] n.toNat b htd fun A hA hAo => hb
      | alias s q =>
        simp only [het, head] at h
        obtain ⟨hsd, _, X, hl, h⟩ := h
        dsimp only at h
        split at h
        case h_2 => exact h.elim
        rename_i l
        obtain ⟨⟨h0, h1⟩, h⟩ := h
        have h' : ws = _ := h
        subst h'
        have hs0 := hR.aliasAt het _ hl rfl
        generalize hvv : vals a t = vv at hs0
        cases hs0 with
        | pers h => cases h
        | nil => simp at h1
        | own l b c cs E us hb hz h1' h2 h3 hu h4 hk =>
          refine ⟨_, w, Z, β, hrun a w (.pointer (some ⟨b, n.toNat, none⟩)) (by rw [eval_tmp, hvv, hie]; simpa using run_indexAt' (b := b) (o := 0) (c := c) hT h0 h1), ?_⟩
          exact hR.addrPut d s q n.toNat b hsd fun A hA hAo => hb
      | sh l =>
        simp only [het, head] at h
        obtain ⟨_, h⟩ := h
        simp only [het] at h
        obtain ⟨h0, A, hA, h⟩ := h
        have h' : ws = _ := h
        subst h'
        obtain ⟨hlt, rfl⟩ := List.getElem?_eq_some_iff.1 hA
        have hp := ORep.toP (hR.slot' het (by simp)) rfl
        generalize hvv : vals a t = vv at hp
        cases hp with
        | nil => simp at hlt
        | sh l b of c cs E fz us hz h1 h2 hu h3 hk =>
          exact ⟨_, w, Z, β, hrun a w (.pointer (some ⟨b, of + n.toNat, none⟩)) (by rw [eval_tmp, hvv, hie]; exact run_indexAt' hT h0 hlt), hR.put d (.pcell _ b _ cs E fz _ hz (hu _ hlt) (h3 _ hlt) (hk _ hlt)) (by simp)⟩
      | win s q k' =>
        simp only [het, head] at h
        obtain ⟨hsd, _, X, hl, h⟩ := h
        dsimp only at h
        split at h
        case h_2 => exact h.elim
        rename_i l
        obtain ⟨⟨h0, h1⟩, h⟩ := h
        have h' : ws = _ := h
        subst h'
        obtain ⟨u, hu, hv⟩ := hR.winAt het _ hl
        obtain ⟨b, c, cs, E, us, hd2, hb, _⟩ := hu.win (k := k') (by omega)
        refine ⟨_, w, Z, β, hrun a w (.pointer (some ⟨b, k' + n.toNat, none⟩)) (by rw [eval_tmp, hv, hd2, hie]; exact run_indexAt' hT h0 (by omega)), ?_⟩
        exact hR.addrPut d s q (k' + n.toNat) b hsd fun A hA hAo => hb
      | _ => simp only [het, head] at h; exact h.elim
    | _ => exact h.elim
  | _ => exact h.elim

noncomputable def rdLen (P : Program) (T d : Nat) (x : Operand) : Rd := match x with
  | .tmp t => .need ((slE P T).isSome = true) (.get t fun v => match v with
    | .sh l => .ret [.set d (.num .i64 l.length)]
    | .own l => .ret [.set d (.num .i64 l.length)]
    | .alias s q => .get s fun c => rdGetP c q fun X => match X with
      | .own l => .ret [.set d (.num .i64 l.length)]
      | _ => .fail
    | .win s q k => .get s fun c => rdGetP c q fun X => match X with
      | .own l => .need (k < bigW) (.ret [.set d (.num .i64 ((l.length - k : Nat) : Int))])
      | _ => .fail
    | _ => .fail)
  | _ => .fail

theorem slE_spec {P : Program} {T : Nat} (h : (slE P T).isSome = true) : ∃ E, P.underlying T = some (.slice E) := by
  unfold slE at h
  cases hu : P.underlying T with
  | none => simp [hu] at h
  | some D => cases D <;> simp_all

theorem ORep.len {Z H β p l v} (h : ORep Z H β p (.own l) v) : ∃ A c, v = .slice A l.length c := by
  cases h with
  | pers h => cases h
  | nil => exact ⟨_, _, rfl⟩
  | own l b c => exact ⟨_, c, rfl⟩
theorem PRep.len {Z l v} (h : PRep Z (.sh l) v) : ∃ A c, v = .slice A l.length c := by
  cases h with
  | nil => exact ⟨_, _, rfl⟩
  | sh l b o c => exact ⟨_, c, rfl⟩

theorem rdLen_sound {P : Program} {κ : Con} {o : Oper} {e : Env} {ws : List Wr} {T d : Nat} {x : Operand} (ho : o.op = .call { callee := .builtin .len, args := #[x], argTypes := #[T] }) (hd : o.dst = some d) (hn : (κ.lim.1 ≤ d ∧ d < κ.lim.2)) (h : (rdLen P T d x).Wo e ws) : Does P κ o e ws := by
  cases x with
  | tmp t =>
    obtain ⟨hT, hj, h⟩ := h
    obtain ⟨E, hE⟩ := slE_spec hT
    have hrun : ∀ (a : Act) (w : World) A n c, vals a t = .slice A n c → (execOp a.eval o).run P w = .ok (.value (.int .i64 n)) w := by
      intro a w A n c hv
      simp [execOp, ho, resolve, invoke, builtin, eval_tmp, hv, Builtin.len_, run_underlying hE, goInt]
    refine does_value hd hn fun a w Z β hR => ?_
    cases het : e t with
    | sh l =>
      simp only [het] at h
      have h' : ws = _ := h
      subst h'
      obtain ⟨A, c, hv⟩ := PRep.len (ORep.toP (hR.slot' het (by simp)) rfl)
      exact ⟨_, w, Z, β, hrun a w A _ c hv, hR.put d (.num _ _) (by simp)⟩
    | own l =>
      simp only [het] at h
      have h' : ws = _ := h
      subst h'
      obtain ⟨A, c, hv⟩ := ORep.len (hR.slot' het (by simp))
      exact ⟨_, w, Z, β, hrun a w A _ c hv, hR.put d (.num _ _) (by simp)⟩
    | alias s q =>
      simp only [het] at h
      obtain ⟨_, X, hl, h⟩ := h
      dsimp only at h
      split at h
      case h_2 => exact h.elim
      have h' : ws = _ := h
      subst h'
      obtain ⟨A, c, hv⟩ := ORep.len (hR.aliasAt het _ hl rfl)
      exact ⟨_, w, Z, β, hrun a w A _ c hv, hR.put d (.num _ _) (by simp)⟩
    | win s q k =>
      simp only [het] at h
      obtain ⟨_, X, hl, h⟩ := h
      dsimp only at h
      split at h
      case h_2 => exact h.elim
      obtain ⟨hkb, h⟩ := h
      have h' : ws = _ := h
      subst h'
      obtain ⟨u, hu, hv⟩ := hR.winAt het _ hl
      obtain ⟨A, c, hd2⟩ := hu.winLen hkb
      exact ⟨_, w, Z, β, hrun a w A _ c (hv.trans hd2), hR.put d (.num _ _) (by simp)⟩
    | _ => simp only [het] at h; exact h.elim
  | _ => exact h.elim

end Go.Proofs.Ytehdfifncbokeaa

namespace Go.Proofs.Ytehdfifncbokeaa
set_option linter.unusedSimpArgs false
set_option linter.unusedVariables false
set_option maxRecDepth 8000
set_option maxHeartbeats 2000000
open Go Go.RowKit AV

def one : AV → Bool
  | .num _ _ => true
  | .bool _ => true
  | .sh _ => true
  | .own _ => true
  | .orec _ _ => true
  | .srec _ _ => true
  | .mfn _ _ => true
  | .box _ => true
  | .pbox _ => true
  | .pcell _ => true
  | .fn _ _ => true
  | .omap _ _ => true
  | .pmap _ _ => true
  | .oiter _ _ _ => true
  | .memo _ _ => true
  | .pin A _ => one A
  | _ => false

theorem PRep.one {Z A v} (h : PRep Z A v) (h1 : one A = true) : v.oneCell' = true := by
  induction h with
  | pin A v _ ih => exact ih (by simpa [Proofs.Ytehdfifncbokeaa.one] using h1)
  | _ => first | rfl | simp [Proofs.Ytehdfifncbokeaa.one] at h1

theorem ORep.one {Z H β p A v} (h : ORep Z H β p A v) (h1 : one A = true) : v.oneCell' = true := by
  cases h with
  | pers h => exact h.one h1
  | nil => rfl
  | own => rfl
  | rnil => rfl
  | orec => rfl
  | box => rfl
  | agg => simp [Proofs.Ytehdfifncbokeaa.one] at h1
  | tup => simp [Proofs.Ytehdfifncbokeaa.one] at h1
  | omap => rfl
  | oiter => rfl
  | memo f g E v h => cases h with
    | pers h => cases h
    | omap => rfl

theorem cells_one {v : Value} (h : v.oneCell' = true) : v.cells = #[v] := by cases v <;> simp_all [Value.oneCell', Value.cells]

theorem drop_app (t : Nat) (e : Env) : (Wr.set t AV.junk).app e = dropS [t] e := by
  funext x; simp [Wr.app, isOwn, upd, dropS]

theorem Rep.drop {κ : Con} {Z : Nat → Option Obj} {β : List Nat → Option Nat} {e : Env} {val : Nat → Value} {w : World} (h : Rep κ Z β e val w) (t : Nat) : Rep κ Z β ((Wr.set t .junk).app e) val w := by
  have := h.put t (A := .junk) (u := val t) (.junk _) (by simp)
  have e2 : setV val t (val t) = val := by funext x; simp only [setV]; split <;> simp_all
  rwa [e2] at this

theorem ORep.storeK {Z : Nat → Option Obj} {H H' : Array Obj} {β β' : List Nat → Option Nat} {p : List Nat} {C A A0 : AV} {u x : Value} {k b : Nat} {cs T}
    (h : ORep Z H β p C u) (hC : blk C = true) (hk : getP C [k] = some A0) (hb : β p = some b) (hz : H[b]? = some (.cells cs T (0, 0))) (hz' : H'[b]? = some (.cells (cs.setIfInBounds k x) T (0, 0))) (hx : x.oneCell' = true)
    (hinj : ∀ p q b, β p = some b → β q = some b → p = q) (hne : ∀ b', b' ≠ b → H'[b']? = H[b']?) (hb' : β' p = some b) (hβ : ∀ r b, β (p ++ r) = some b → ¬ [k] <+: r → β' (p ++ r) = some b)
    (hA : ORep Z H' β' (p ++ [k]) A x) : ORep Z H' β' p (setP C [k] A) u := by
  have kid : ∀ (j : Nat) (B : AV) (v : Value), j ≠ k → ORep Z H β (p ++ [j]) B v → ORep Z H' β' (p ++ [j]) B v := by
    intro j B v hj hB
    refine hB.move (fun _ _ h => h) fun r b2 hr => ⟨?_, hne _ ?_⟩
    · have := hβ (j :: r) b2 (by simpa using hr) (by simp [Ne.symm hj])
      simpa using this
    · rintro rfl
      have := hinj _ _ _ hr hb
      simp at this
  cases h with
  | pers h => have := h.noOwn; rw [blk_own hC] at this; cases this
  | nil => simp [getP, kids] at hk
  | own l b2 c cs2 T2 us hb2 hz2 h1 h2 h3 hu h4 hkk =>
    rw [hb] at hb2; injection hb2 with hb2; subst hb2
    rw [hz] at hz2; injection hz2 with hz2; injection hz2 with hz2 hz3; subst hz2; subst hz3
    have hlt : k < l.length := by
      simp only [getP, kids] at hk
      split at hk
      · rename_i a ha; exact (List.getElem?_eq_some_iff.1 ha).1
      · cases hk
    simp only [setP, kids, withKids]
    have hlen : (l.set k A).length = l.length := by simp
    have := ORep.own (Z := Z) (H := H') (β := β') (p := p) (l.set k A) b c _ T (fun j => if j = k then x else us j) hb' hz' (by simpa using h1) (by simpa using h2) h3
      (fun j hj => by
        have hj' : j < l.length := by simpa using hj
        by_cases hjk : j = k
        · subst hjk; simp [Array.getElem?_setIfInBounds]; omega
        · simp [Array.getElem?_setIfInBounds_ne (Ne.symm hjk), hjk, hu j hj'])
      (fun j hj => by
        have hj' : j < l.length := by simpa using hj
        show (if j = k then x else us j).oneCell' = true
        split
        · exact hx
        · exact h4 j hj')
      (fun j hj => by
        have hj' : j < l.length := by simpa using hj
        by_cases hjk : j = k
        · subst hjk; simpa using hA
        · simp only [hjk, if_false]
          rw [List.getElem_set_ne (Ne.symm hjk)]
          exact kid j _ _ hjk (hkk j hj'))
    rw [hlen] at this
    exact this
  | rnil => simp [getP, kids] at hk
  | orec n m l b2 c cs2 T2 us hb2 hz2 hlm h1 h2 h3 hu h4 hkk =>
    rw [hb] at hb2; injection hb2 with hb2; subst hb2
    rw [hz] at hz2; injection hz2 with hz2; injection hz2 with hz2 hz3; subst hz2; subst hz3
    have hlt : k < l.length := by
      simp only [getP, kids] at hk
      split at hk
      · rename_i a ha; exact (List.getElem?_eq_some_iff.1 ha).1
      · cases hk
    simp only [setP, kids, withKids]
    exact ORep.orec (Z := Z) (H := H') (β := β') (p := p) n m (l.set k A) b c _ T (fun j => if j = k then x else us j) hb' hz' (by simpa using hlm) h1 (by simpa using h2) h3
      (fun j hj => by
        have hj' : j < l.length := by simpa using hj
        by_cases hjk : j = k
        · subst hjk
          have hc := hu j hj'
          have : j < cs.size := (Array.getElem?_eq_some_iff.1 hc).1
          simp [Array.getElem?_setIfInBounds, this]
        · simp [Array.getElem?_setIfInBounds_ne (Ne.symm hjk), hjk, hu j hj'])
      (fun j hj => by
        have hj' : j < l.length := by simpa using hj
        show (if j = k then x else us j).oneCell' = true
        split
        · exact hx
        · exact h4 j hj')
      (fun j hj => by
        have hj' : j < l.length := by simpa using hj
        by_cases hjk : j = k
        · subst hjk; simpa using hA
        · simp only [hjk, if_false]
          rw [List.getElem_set_ne (Ne.symm hjk)]
          exact kid j _ _ hjk (hkk j hj'))
  | box l b2 cs2 T2 hb2 hz2 h1 h4 hkk =>
    rw [hb] at hb2; injection hb2 with hb2; subst hb2
    rw [hz] at hz2; injection hz2 with hz2; injection hz2 with hz2 hz3; subst hz2; subst hz3
    have hlt : k < l.length := by
      simp only [getP, kids] at hk
      split at hk
      · rename_i a ha; exact (List.getElem?_eq_some_iff.1 ha).1
      · cases hk
    simp only [setP, kids, withKids]
    have hg : ∀ j, j < l.length → (cs.setIfInBounds k x).getD j undef = if j = k then x else cs.getD j undef := by
      intro j hj
      by_cases hjk : j = k
      · subst hjk
        simp [Array.getD_eq_getD_getElem?]
        intro h; omega
      · simp [Array.getD_eq_getD_getElem?, Array.getElem?_setIfInBounds_ne (Ne.symm hjk), hjk]
    refine .box (l.set k A) b _ T hb' hz' (by simpa using h1) (fun j hj => ?_) (fun j hj => ?_)
    · have hj' : j < l.length := by simpa using hj
      rw [hg j hj']
      split
      · exact hx
      · exact h4 j hj'
    · have hj' : j < l.length := by simpa using hj
      rw [hg j hj']
      by_cases hjk : j = k
      · subst hjk; simpa using hA
      · simp only [hjk, if_false]
        rw [List.getElem_set_ne (Ne.symm hjk)]
        exact kid j _ _ hjk (hkk j hj')
  | agg => simp [blk] at hC
  | tup => simp [blk] at hC
  | omap => simp [blk] at hC
  | oiter => simp [blk] at hC
  | memo => simp [blk] at hC

theorem getP_own_up {X A : AV} {q r : List Nat} {C : AV} (hX : getP X q = some C) (hq : r <+: q) (hC : isOwn C = true) : getP X r = some A → isOwn A = true := by
  intro hA
  obtain ⟨s, rfl⟩ := hq
  rw [getP_append r s hA] at hX
  cases h : isOwn A with
  | true => rfl
  | false => rw [getP_noOwn s h hX] at hC; cases hC

theorem setP_blk {C A A0 : AV} {k : Nat} (hC : blk C = true) (hk : getP C [k] = some A0) : blk (setP C [k] A) = true ∧ (∀ s p, setP C [k] A ≠ .alias s p ∧ setP C [k] A ≠ .valias s p ∧ setP C [k] A ≠ .addr s p ∧ ∀ k2, setP C [k] A ≠ .win s p k2) := by
  cases C <;> simp_all [blk, setP, kids, withKids]

theorem Rep.store {κ : Con} {Z : Nat → Option Obj} {β : List Nat → Option Nat} {e : Env} {val : Nat → Value} {w : World} (h : Rep κ Z β e val w) {s : Nat} {q0 : List Nat} {k b : Nat} {C A A0 : AV} {x : Value} {cs T}
    (hC : getP (e s) q0 = some C) (hCb : blk C = true) (hk : getP C [k] = some A0) (hb : β (s :: q0) = some b) (hz : w.heap[b]? = some (.cells cs T (0, 0))) (hx : x.oneCell' = true)
    (hA : PRep Z A x ∨ ∃ v, e v = .junk ∧ v ≠ s ∧ ORep Z w.heap β [v] A x) :
    ∃ β', Rep κ Z β' ((Wr.mod s q0 (setP C [k] A)).app e) val (w.setCell ⟨b, k, none⟩ x) := by
  have hCo := blk_own hCb
  have hpl := plain_of_own hC hCo
  have hz' : (w.setCell ⟨b, k, none⟩ x).heap[b]? = some (.cells (cs.setIfInBounds k x) T (0, 0)) := by
    simp [World.setCell, Array.getElem?_modify, hz]
  have hne : ∀ b', b' ≠ b → (w.setCell ⟨b, k, none⟩ x).heap[b']? = w.heap[b']? := fun b' hb' => Below.heap_setCell w ⟨b, k, none⟩ x b' hb'
  have hbb := h.bo _ _ hb
  have hset := setP_blk (A := A) hCb hk
  have hzh : ∀ b' o, Z b' = some o → (w.setCell ⟨b, k, none⟩ x).heap[b']? = some o := fun b' o ho => by
    rw [hne b' (by rintro rfl; rw [hbb.2.1] at ho; cases ho)]
    exact h.zh b' o ho
  have hfr : ∀ b', ¬ new κ b' → b' < w.heap.size → (w.setCell ⟨b, k, none⟩ x).heap[b']? = w.heap[b']? := fun b' hn _ => hne b' (by rintro rfl; exact hn hbb.1)
  rcases hA with hA | ⟨v, hv, hvs, hA⟩
  · refine ⟨β, h.mod s q0 C _ hC hpl.2 hset.2 hpl.1 rfl rfl rfl (by simp) hfr (fun _ _ h => h) (fun _ _ h => .inl h) hzh (fun r b' hr hj hn hb' => ⟨hb', hne b' ?_⟩) h.inj (fun p b' hp => by have := h.bo p b' hp; simpa using this) (fun u hu => ?_) (fun _ q C' hq _ hC' => getP_own_up hC hq hCo hC')⟩
    · rintro rfl
      exact hn (by rw [h.inj _ _ _ hb' hb]; exact List.prefix_refl _)
    · exact hu.storeK hCb hk hb hz hz' hx h.inj hne hb (fun _ _ h _ => h) (.pers hA)
  · have hβf : ∀ r b', r ≠ [] → root r ≠ v → ¬ (s :: (q0 ++ [k])) <+: r → β r = some b' → viaF (mvF [v] (s :: (q0 ++ [k]))) β r = some b' := by
      intro r b' hr hrv hn hb'
      cases r with
      | nil => exact absurd rfl hr
      | cons y r =>
        have h1 : ¬ [v] <+: (y :: r) := by simp; exact fun e => hrv e.symm
        simp only [viaF, mvF, hn, if_false, h1, Option.bind_some]
        exact hb'
    refine ⟨viaF (mvF [v] (s :: (q0 ++ [k]))) β, h.mod s q0 C _ hC hpl.2 hset.2 hpl.1 rfl rfl rfl (by simp) hfr (fun _ _ h => h) (fun _ _ h => .inl h) hzh (fun r b' hr hj hn hb' => ⟨hβf r b' hr (fun e => hj (by rw [e]; exact hv)) (fun hp => hn (List.IsPrefix.trans (by simp) hp)) hb', hne b' ?_⟩) (viaF_inj (mvF_inj _ _) h.inj) (viaF_bo (fun p b' hp => by have := h.bo p b' hp; simpa using this)) (fun u hu => ?_) (fun _ q C' hq _ hC' => getP_own_up hC hq hCo hC')⟩
    · rintro rfl
      exact hn (by rw [h.inj _ _ _ hb' hb]; exact List.prefix_refl _)
    · have hbk : viaF (mvF [v] (s :: (q0 ++ [k]))) β (s :: q0) = some b := hβf _ b (by simp) (by simpa [root] using Ne.symm hvs) (by
        intro hp
        have := hp.length_le
        simp at this
        omega) hb
      refine hu.storeK hCb hk hb hz hz' hx h.inj hne hbk (fun r b' hr hn => hβf _ b' (by simp) (by simpa [root] using Ne.symm hvs) (by simpa [List.prefix_append_right_inj] using hn) hr) ?_
      refine hA.move (fun _ _ h => h) fun r b' hr => ⟨?_, hne b' ?_⟩
      · simp only [viaF, mvF]
        rw [if_pos (by simp)]
        simpa using hr
      · rintro rfl
        have := h.inj _ _ _ hr hb
        simp at this
        exact hvs this.1

theorem killV_getP2 {s : Nat} {p q : List Nat} {x B : AV} (h : getP x q = some B) (hB : isOwn B = true) : getP (killV s p x) q = some B := by
  cases x <;> first
    | exact h
    | (cases q <;> simp_all [getP, kids] <;> subst h <;> simp [isOwn] at hB)

set_option maxHeartbeats 1000000 in
theorem Rep.storeL {κ : Con} {Z : Nat → Option Obj} {β : List Nat → Option Nat} {e : Env} {val : Nat → Value} {w : World} (h : Rep κ Z β e val w) {s : Nat} {q0 : List Nat} {k b : Nat} {l : List AV} {A A0 : AV} {x : Value} {cs T}
    (hC : getP (e s) q0 = some (.own l)) (hk : getP (.own l) [k] = some A0) (hb : β (s :: q0) = some b) (hz : w.heap[b]? = some (.cells cs T (0, 0))) (hx : x.oneCell' = true) (hA : PRep Z A x) :
    Rep κ Z β ((Wr.mod s (q0 ++ [k]) A).app e) val (w.setCell ⟨b, k, none⟩ x) := by
  have hAo := hA.noOwn
  have hpl := plain_of_own hC rfl
  have hz' : (w.setCell ⟨b, k, none⟩ x).heap[b]? = some (.cells (cs.setIfInBounds k x) T (0, 0)) := by
    simp [World.setCell, Array.getElem?_modify, hz]
  have hne : ∀ b', b' ≠ b → (w.setCell ⟨b, k, none⟩ x).heap[b']? = w.heap[b']? := fun b' hb' => Below.heap_setCell w ⟨b, k, none⟩ x b' hb'
  have hbb := h.bo _ _ hb
  have hset := setP_blk (A := A) (C := .own l) rfl hk
  have hzh : ∀ b' o, Z b' = some o → (w.setCell ⟨b, k, none⟩ x).heap[b']? = some o := fun b' o ho => by
    rw [hne b' (by rintro rfl; rw [hbb.2.1] at ho; cases ho)]
    exact h.zh b' o ho
  have hfr : ∀ b', ¬ new κ b' → b' < w.heap.size → (w.setCell ⟨b, k, none⟩ x).heap[b']? = w.heap[b']? := fun b' hn _ => hne b' (by rintro rfl; exact hn hbb.1)
  have hlist : ∀ u, ORep Z w.heap β (s :: q0) (.own l) u → ORep Z (w.setCell ⟨b, k, none⟩ x).heap β (s :: q0) (setP (.own l) [k] A) u := fun u hu =>
    hu.storeK rfl hk hb hz hz' hx h.inj hne hb (fun _ _ h _ => h) (.pers hA)
  have h' : Rep κ Z β ((Wr.mod s q0 (setP (.own l) [k] A)).app e) val (w.setCell ⟨b, k, none⟩ x) :=
    h.mod s q0 (.own l) _ hC hpl.2 hset.2 hpl.1 rfl rfl rfl (by simp) hfr (fun _ _ h => h) (fun _ _ h => .inl h) hzh (fun r b' hr hj hn hb' => ⟨hb', hne b' (by rintro rfl; exact hn (by rw [h.inj _ _ _ hb' hb]; exact List.prefix_refl _))⟩) h.inj (fun p b' hp => by have := h.bo p b' hp; simpa using this) hlist (fun _ q C' hq _ hC' => getP_own_up hC hq rfl hC')
  have hes : setP (e s) (q0 ++ [k]) A = setP (e s) q0 (setP (.own l) [k] A) := setP_append q0 [k] A hC
  have hSo : isOwn (setP (.own l) [k] A) = true := rfl
  have he2 : ∀ t, (Wr.mod s (q0 ++ [k]) A).app e t = if t = s then setP (e s) q0 (setP (.own l) [k] A) else e t := by
    intro t
    simp only [Wr.app, hAo, Bool.false_eq_true, if_false, upd, hes]
  have he1 : ∀ t, (Wr.mod s q0 (setP (.own l) [k] A)).app e t = if t = s then setP (e s) q0 (setP (.own l) [k] A) else killV s q0 (e t) := by
    intro t
    simp only [Wr.app, hSo, if_true, upd, kill]
  have hconv : ∀ s2 q B, getP ((Wr.mod s (q0 ++ [k]) A).app e s2) q = some B → isOwn B = true → getP ((Wr.mod s q0 (setP (.own l) [k] A)).app e s2) q = some B := by
    intro s2 q B hq hB
    rw [he2] at hq
    rw [he1]
    split
    · rename_i hs2; rwa [if_pos hs2] at hq
    · rename_i hs2; rw [if_neg hs2] at hq; exact killV_getP2 hq hB
  have hdeep : ∀ q B, q0 <+: q → getP ((Wr.mod s (q0 ++ [k]) A).app e s) q = some B → isOwn B = true → (q = q0 ∧ B = setP (.own l) [k] A) ∨ (q ≠ q0 ∧ getP (e s) q = some B ∧ (∀ v, ORep Z w.heap β (s :: q) B v → ORep Z (w.setCell ⟨b, k, none⟩ x).heap β (s :: q) B v)) := by
    rintro q B ⟨r, rfl⟩ hq hB
    rw [he2, if_pos rfl] at hq
    cases r with
    | nil =>
      rw [getP_set_self [] _ q0 hC] at hq
      simp only [getP, Option.some.injEq] at hq
      exact .inl ⟨by simp, hq.symm⟩
    | cons j r =>
      refine .inr ⟨by simp, ?_⟩
      rw [← hes] at hq
      have hgk : getP (e s) (q0 ++ [k]) = some A0 := by rw [getP_append q0 [k] hC]; exact hk
      by_cases hjk : j = k
      · subst hjk
        rw [show q0 ++ j :: r = (q0 ++ [j]) ++ r by simp, getP_set_self r A (q0 ++ [j]) hgk] at hq
        rw [getP_noOwn r hAo hq] at hB
        cases hB
      · rw [getP_set_apart A (q0 ++ [k]) (q0 ++ j :: r) (by simp [List.prefix_append_right_inj, Ne.symm hjk]) (by
          simp only [List.prefix_append_right_inj]
          intro hp
          have := List.cons_prefix_cons.1 hp
          exact hjk this.1)] at hq
        refine ⟨hq, fun v hv => hv.move (fun _ _ h => h) fun r2 b2 hr2 => ⟨hr2, hne b2 ?_⟩⟩
        rintro rfl
        have := h.inj _ _ _ hr2 hb
        simp at this
  have hbne : ∀ q b2, q ≠ q0 → β (s :: q) = some b2 → (w.setCell ⟨b, k, none⟩ x).heap[b2]? = w.heap[b2]? := fun q b2 hq hb2 => hne b2 (by
    rintro rfl
    have := h.inj _ _ _ hb2 hb
    simp at this
    exact hq this)
  refine ⟨h'.os, h'.tape, h'.output, h'.size, h'.frame, h'.z0, h'.zo, h'.zh, h'.inj, h'.bo, fun t => ?_⟩
  have ht' := h'.reps t
  have ht := h.reps t
  unfold TRep at ht ht' ⊢
  rw [he2 t]
  rw [he1 t] at ht'
  by_cases hts : t = s
  · rw [if_pos hts] at ht' ⊢
    generalize setP (e s) q0 (setP (.own l) [k] A) = X at ht' ⊢
    cases X with
    | alias s' p' => intro B hq hB; exact ht' B (hconv _ _ _ hq hB) hB
    | valias s' p' => intro l' hq; exact ht' l' (hconv _ _ _ hq rfl)
    | addr s' p' => obtain ⟨q, j, b', hp, hv, hb'⟩ := ht'; exact ⟨q, j, b', hp, hv, fun B hq hB => hb' B (hconv _ _ _ hq hB) hB⟩
    | win s' p' m => intro l' hq; exact ht' l' (hconv _ _ _ hq rfl)
    | _ => exact ht'
  · rw [if_neg hts] at ht' ⊢
    cases het : e t with
    | alias s2 q =>
      rw [het] at ht ht'
      by_cases hkl : s2 = s ∧ q0 <+: q
      · obtain ⟨rfl, hq0⟩ := hkl
        intro B hq hB
        rcases hdeep q B hq0 hq hB with ⟨rfl, rfl⟩ | ⟨_, h5, h6⟩
        · exact hlist _ (ht _ hC rfl)
        · exact h6 _ (ht B h5 hB)
      · simp only [killV, hkl, if_false] at ht'
        intro B hq hB; exact ht' B (hconv _ _ _ hq hB) hB
    | valias s2 q =>
      rw [het] at ht ht'
      by_cases hkl : s2 = s ∧ q0 <+: q
      · obtain ⟨rfl, hq0⟩ := hkl
        intro l' hq
        rcases hdeep q _ hq0 hq rfl with ⟨rfl, h5⟩ | ⟨h4, h5, h6⟩
        · cases h5
        · obtain ⟨cs', hv, hR, b2, T2, hb2, hz2⟩ := ht l' h5
          refine ⟨cs', hv, ?_, b2, T2, hb2, (hbne q b2 h4 hb2).trans hz2⟩
          refine hR.move (fun _ _ h => h) fun r2 b3 hr2 => ⟨hr2, hne b3 ?_⟩
          rintro rfl
          have h7 := h.inj _ _ _ hr2 hb
          simp only [List.cons_append, List.cons.injEq, true_and] at h7
          obtain ⟨r3, rfl⟩ := hq0
          rw [List.append_assoc, List.append_right_eq_self] at h7
          simp only [List.append_eq_nil_iff] at h7
          exact h4 (by rw [h7.1, List.append_nil])
      · simp only [killV, hkl, if_false] at ht'
        intro l' hq; exact ht' l' (hconv _ _ _ hq rfl)
    | addr s2 q =>
      rw [het] at ht ht'
      by_cases hkl : s2 = s ∧ q0 <+: q.dropLast
      · obtain ⟨rfl, hq0⟩ := hkl
        obtain ⟨q', j, b', rfl, hv, hb'⟩ := ht
        rw [List.dropLast_concat] at hq0
        refine ⟨q', j, b', rfl, hv, fun B hq hB => ?_⟩
        rcases hdeep q' B hq0 hq hB with ⟨rfl, rfl⟩ | ⟨_, h5, h6⟩
        · exact hb' _ hC rfl
        · exact hb' B h5 hB
      · simp only [killV, hkl, if_false] at ht'
        obtain ⟨q', j, b', hp, hv, hb'⟩ := ht'
        exact ⟨q', j, b', hp, hv, fun B hq hB => hb' B (hconv _ _ _ hq hB) hB⟩
    | win s2 q m =>
      rw [het] at ht ht'
      by_cases hkl : s2 = s ∧ q0 <+: q
      · obtain ⟨rfl, hq0⟩ := hkl
        intro l' hq
        rcases hdeep q _ hq0 hq rfl with ⟨rfl, h5⟩ | ⟨_, h5, h6⟩
        · rw [h5]
          obtain ⟨u, hu, hv⟩ := ht _ hC
          exact ⟨u, hlist u hu, hv⟩
        · obtain ⟨u, hu, hv⟩ := ht _ h5
          exact ⟨u, h6 u hu, hv⟩
      · simp only [killV, hkl, if_false] at ht'
        intro l' hq; exact ht' l' (hconv _ _ _ hq rfl)
    | _ => rw [het] at ht'; exact ht'

def stW (s : Nat) (q : List Nat) (C A : AV) : Wr := match C, A with
  | .own _, .pin B v => .mod s q (.pin B v)
  | C, A => .mod s q.dropLast (setP C [q.getLast?.getD 0] A)

theorem stW_cases (s : Nat) (q0 : List Nat) (k : Nat) (C A : AV) : stW s (q0 ++ [k]) C A = .mod s q0 (setP C [k] A) ∨ ∃ l B v, C = .own l ∧ A = .pin B v := by
  cases C <;> cases A <;> simp [stW]

noncomputable def rdVal (x : Operand) (k : AV → Option Nat → Rd) : Rd := match x with
  | .const v => .need (cst v ≠ .junk) (k (cst v) none)
  | .func f => k (.fn f []) none
  | .global _ => .fail
  | .tmp t => .get t fun v => if isOwn v then k v (some t) else if isP v then k v none else .fail

def srcW : Option Nat → List Wr
  | some t => [.set t .junk]
  | none => []

theorem rdVal_sound {e : Env} {x : Operand} {k : AV → Option Nat → Rd} {ws : List Wr} (h : (rdVal x k).Wo e ws) : ∃ A src, (k A src).Wo e ws ∧ (∀ s p, A ≠ .alias s p ∧ A ≠ .valias s p ∧ A ≠ .addr s p ∧ ∀ k, A ≠ .win s p k) ∧ (∀ t, src = some t → x = .tmp t ∧ e t = A ∧ isOwn A = true) ∧
    ∀ {κ Z β w} {a : Act}, Rep κ Z β e (vals a) w → (∀ t, src = some t → ORep Z w.heap β [t] A (a.eval x)) ∧ (src = none → ∀ p, ORep Z w.heap β p A (a.eval x)) ∧ (src = none → isP A = true ∨ (A = .own [] ∧ a.eval x = .slice none 0 0)) := by
  cases x with
  | const v =>
    obtain ⟨h1, h2⟩ := h
    refine ⟨_, none, h2, cst_plain v, by simp, fun {κ Z β w a} hR => ⟨by simp, fun _ p => cst_rep p v h1, fun _ => ?_⟩⟩
    show isP (cst v) = true ∨ (cst v = .own [] ∧ v = .slice none 0 0)
    unfold cst at h1 ⊢
    split <;> simp_all [isP]
  | func f => exact ⟨_, none, h, by simp, by simp, fun hR => ⟨by simp, fun _ p => .pers (.fn f [] #[] rfl (by simp)), fun _ => .inl rfl⟩⟩
  | global g => exact h.elim
  | tmp t =>
    obtain ⟨h1, h2⟩ := h
    dsimp only at h2
    split at h2
    · rename_i ho
      refine ⟨_, some t, h2, own_plain ho, fun t' ht => ?_, fun hR => ⟨fun t' ht => ?_, by simp, by simp⟩⟩
      · injection ht with ht; subst ht; exact ⟨rfl, rfl, ho⟩
      · injection ht with ht; subst ht; exact hR.slot t (own_plain ho)
    · split at h2
      · rename_i hp
        exact ⟨_, none, h2, isP_plain hp, by simp, fun hR => ⟨by simp, fun _ p => .pers (ORep.toP (hR.slot t (isP_plain hp)) hp), fun _ => .inl hp⟩⟩
      · exact h2.elim

noncomputable def rdStore (P : Program) (T : Nat) (addr x : Operand) : Rd := match addr with
  | .tmp t => .peek t fun h => match h with
    | .addr s q => .need (szT P T = some 1) (rdVal x fun A src => .need (one A = true ∧ src ≠ some s) (.get s fun c => rdGetP c q.dropLast fun C => .need (blk C = true) (rdGetP C [q.getLast?.getD 0] fun _ =>
        (.ret (srcW src ++ [stW s q C A])))))
    | .box _ => .need (szT P T = some 1) (rdVal x fun A src => .need (one A = true ∧ src ≠ some t) (.get t fun c => match c with
      | .box [_] => .ret (srcW src ++ [.mod t [] (.box [A])])
      | _ => .fail))
    | .alias s q => .need (szT P T = some 1) (rdVal x fun A src => .need (one A = true ∧ src ≠ some s) (.get s fun c => rdGetP c q fun X => match X with
      | .box [_] => .ret (srcW src ++ [.mod s q (.box [A])])
      | _ => .fail))
    | _ => .fail
  | _ => .fail

theorem run_storeAt' {P : Program} {w : World} {T b k : Nat} {x : Value} {cs E} (hs : szT P T = some 1) (hx : x.oneCell' = true) (hz : w.heap[b]? = some (.cells cs E (0, 0))) (hk : k < cs.size) :
    (Instr.storeAt T (.pointer (some ⟨b, k, none⟩)) x).run P w = .ok () (w.setCell ⟨b, k, none⟩ x) := by
  obtain ⟨i, hi, hi1⟩ := szT_spec hs
  have hadd : (⟨b, k, none⟩ : Addr).add 0 = ⟨b, k, none⟩ := by unfold Addr.add; simp
  have hc := cell_heap (w := w) hz (Array.getElem?_eq_getElem hk)
  have hf : w.frozen? ⟨b, k, none⟩ = false := by simp [World.frozen?, hz]
  have hst := run_store P w ⟨b, k, none⟩ x .plain hx
  simp only [hc, hf, Bool.false_eq_true, if_false] at hst
  simp [Instr.storeAt, Instr.sureAddr, storeVar, cells_one hx, sizeOf, typeInfo, hi, hi1, storeCells, hadd, hst]

theorem rdStore_sound {P : Program} {κ : Con} {o : Oper} {e : Env} {ws : List Wr} {T : Nat} {addr x : Operand} (ho : o.op = .store T addr x) (hd : o.dst = none) (h : (rdStore P T addr x).Wo e ws) : Does P κ o e ws := by
  have hrun : ∀ (a : Act) (w w' : World), (Instr.storeAt T (a.eval addr) (a.eval x)).run P w = .ok () w' → (execOp a.eval o).run P w = .ok .skip w' := by
    intro a w w' hu
    simp only [execOp, ho]
    rw [Sem.run_bind, hu]
    rfl
  cases addr with
  | tmp t =>
    obtain ⟨hj, h⟩ := h
    refine does_skip hd fun a w Z β hR => ?_
    have main : ∀ (s : Nat) (q0 : List Nat) (k b : Nat) (C B A : AV) (src : Option Nat), szT P T = some 1 → (∀ t, src = some t → x = .tmp t ∧ e t = A ∧ isOwn A = true) →
        ((∀ t, src = some t → ORep Z w.heap β [t] A (a.eval x)) ∧ (src = none → ∀ p, ORep Z w.heap β p A (a.eval x)) ∧ (src = none → isP A = true ∨ (A = .own [] ∧ a.eval x = .slice none 0 0))) → one A = true → src ≠ some s →
        getP (e s) q0 = some C → blk C = true → getP C [k] = some B → vals a t = .pointer (some ⟨b, k, none⟩) → β (s :: q0) = some b → ws = srcW src ++ [.mod s q0 (setP C [k] A)] →
        ∃ w' Z' β', (execOp a.eval o).run P w = .ok .skip w' ∧ Rep κ Z' β' (apps ws e) (vals a) w' := by
      intro s q0 k b C B A src hT hsrc hval hA1 hss hC hCb hk hv hb hws
      subst hws
      have hCo := blk_own hCb
      have hpl := plain_of_own hC hCo
      obtain ⟨u0, hu0, _⟩ := ORep.place q0 (hR.slot s hpl.2) hC
      obtain ⟨cs, E, u, hz, hcu, h1, hAu⟩ := ORep.cell (by simpa using hu0) hCb hk hb
      have hks : k < cs.size := (Array.getElem?_eq_some_iff.1 hcu).1
      cases src with
      | none =>
        have hx1 := ORep.one (hval.2.1 rfl []) hA1
        have hrun' := hrun a w _ (by rw [eval_tmp, hv]; exact run_storeAt' hT hx1 hz hks)
        rcases hval.2.2 rfl with hp | ⟨rfl, hnil⟩
        · obtain ⟨β', hR'⟩ := hR.store hC hCb hk hb hz hx1 (.inl (ORep.toP (hval.2.1 rfl []) hp))
          exact ⟨_, Z, β', hrun', hR'⟩
        · -- an empty slice: it is stored as one that owns nothing yet
          have hz' : (w.setCell ⟨b, k, none⟩ (a.eval x)).heap[b]? = some (.cells (cs.setIfInBounds k (a.eval x)) E (0, 0)) := by simp [World.setCell, Array.getElem?_modify, hz]
          have hne : ∀ b', b' ≠ b → (w.setCell ⟨b, k, none⟩ (a.eval x)).heap[b']? = w.heap[b']? := fun b' hb' => Below.heap_setCell w ⟨b, k, none⟩ _ b' hb'
          have hbb := hR.bo _ _ hb
          have hset := setP_blk (A := AV.own []) hCb hk
          refine ⟨_, Z, β, hrun', hR.mod s q0 C _ hC hpl.2 hset.2 hpl.1 rfl rfl rfl (by simp) (fun b' hn _ => hne b' (by rintro rfl; exact hn hbb.1)) (fun _ _ h => h) (fun _ _ h => .inl h)
            (fun b' o ho => by rw [hne b' (by rintro rfl; rw [hbb.2.1] at ho; cases ho)]; exact hR.zh b' o ho) (fun r b' hr hj hn hb' => ⟨hb', hne b' (by rintro rfl; exact hn (by rw [hR.inj _ _ _ hb' hb]; exact List.prefix_refl _))⟩) hR.inj
            (fun p b' hp => by have := hR.bo p b' hp; simpa using this) (fun u hu => hu.storeK hCb hk hb hz hz' hx1 hR.inj hne hb (fun _ _ h _ => h) (by rw [hnil]; exact .nil)) (fun _ q C' hq _ hC' => getP_own_up hC hq hCo hC')⟩
      | some v =>
        obtain ⟨rfl, hev, hAo⟩ := hsrc v rfl
        have hx1 := ORep.one (hval.1 v rfl) hA1
        have hrun' := hrun a w _ (by rw [eval_tmp, hv]; exact run_storeAt' hT hx1 hz hks)
        have hvs : v ≠ s := by rintro rfl; exact hss rfl
        have hR1 := hR.drop v
        have e1 : (Wr.set v AV.junk).app e s = e s := by simp [Wr.app, isOwn, upd, Ne.symm hvs]
        obtain ⟨β', hR'⟩ := hR1.store (A := A) (x := a.eval (.tmp v)) (by rw [e1]; exact hC) hCb hk hb hz hx1 (.inr ⟨v, by simp [Wr.app, isOwn, upd], hvs, hval.1 v rfl⟩)
        exact ⟨_, Z, β', hrun', hR'⟩
    cases het : e t with
    | addr s q =>
      simp only [het, head] at h
      obtain ⟨hT, h⟩ := h
      obtain ⟨A, src, ⟨⟨hA1, hss⟩, hsj, C, hC, hCb, B, hk, hw⟩, hApl, hsrc, hval⟩ := rdVal_sound h
      obtain ⟨q0, k, b, rfl, hv, hb⟩ := hR.addrAt het
      simp only [List.dropLast_concat, List.getLast?_concat, Option.getD_some] at hC hk hw
      have hw' : ws = srcW src ++ [stW s (q0 ++ [k]) C A] := hw
      have hgen : stW s (q0 ++ [k]) C A = .mod s q0 (setP C [k] A) → ∃ w' Z' β', (execOp a.eval o).run P w = .ok .skip w' ∧ Rep κ Z' β' (apps ws e) (vals a) w' := fun h0 =>
        main s q0 k b C B A src hT hsrc (hval hR) hA1 hss hC hCb hk hv (hb C hC (blk_own hCb)) (by rw [hw', h0])
      rcases stW_cases s q0 k C A with h0 | ⟨l, A1, v1, rfl, rfl⟩
      · exact hgen h0
      have hv1 := hval hR
      cases src with
      | some y => have := (hsrc y rfl).2.2; simp [isOwn] at this
      | none =>
        have hAp : PRep Z (.pin A1 v1) (a.eval x) := by
          rcases hv1.2.2 rfl with hp | ⟨h0, _⟩
          · exact ORep.toP (hv1.2.1 rfl []) hp
          · cases h0
        obtain ⟨u0, hu0, _⟩ := ORep.place q0 (hR.slot s (plain_of_own hC rfl).2) hC
        obtain ⟨cs, E, u, hz, hcu, h1, hAu⟩ := ORep.cell (by simpa using hu0) hCb hk (hb _ hC rfl)
        have hks : k < cs.size := (Array.getElem?_eq_some_iff.1 hcu).1
        have hx1 := ORep.one (hv1.2.1 rfl []) hA1
        have hrun' := hrun a w _ (by rw [eval_tmp, hv]; exact run_storeAt' hT hx1 hz hks)
        subst hw'
        exact ⟨_, Z, β, hrun', hR.storeL hC hk (hb _ hC rfl) hz hx1 hAp⟩
    | box l =>
      simp only [het, head] at h
      obtain ⟨hT, h⟩ := h
      obtain ⟨A, src, ⟨⟨hA1, hss⟩, hsj, hw⟩, hApl, hsrc, hval⟩ := rdVal_sound h
      dsimp only at hw
      split at hw
      case h_2 => exact hw.elim
      rename_i B hB
      have hw' : ws = _ := hw
      have hs0 := hR.slot' hB (by simp)
      generalize hvv : vals a t = vv at hs0
      cases hs0 with
      | pers h => cases h
      | box l b cs E hb hz h1 h4 hk => exact main t [] 0 b (.box [B]) B A src hT hsrc (hval hR) hA1 hss (by rw [hB]; rfl) rfl rfl hvv hb hw'
    | alias s q =>
      simp only [het, head] at h
      obtain ⟨hT, h⟩ := h
      obtain ⟨A, src, ⟨⟨hA1, hss⟩, hsj, X, hB, hw⟩, hApl, hsrc, hval⟩ := rdVal_sound h
      dsimp only at hw
      split at hw
      case h_2 => exact hw.elim
      rename_i B
      have hw' : ws = _ := hw
      have hs0 := hR.aliasAt het _ hB rfl
      generalize hvv : vals a t = vv at hs0
      cases hs0 with
      | pers h => cases h
      | box l b cs E hb hz h1 h4 hk => exact main s q 0 b (.box [B]) B A src hT hsrc (hval hR) hA1 hss hB rfl rfl hvv hb hw'
    | _ => simp only [het, head] at h; exact h.elim
  | _ => exact h.elim

end Go.Proofs.Ytehdfifncbokeaa

namespace Go.Proofs.Ytehdfifncbokeaa
set_option linter.unusedSimpArgs false
set_option linter.unusedVariables false
set_option maxRecDepth 8000
set_option maxHeartbeats 2000000
open Go Go.RowKit AV

theorem apps_append (a b : List Wr) (e : Env) : apps (a ++ b) e = apps b (apps a e) := by
  induction a generalizing e with
  | nil => rfl
  | cons x a ih => exact ih _

theorem apps_drops (ts : List Nat) (e : Env) : apps (ts.map fun t => .set t .junk) e = dropS ts e := by
  induction ts generalizing e with
  | nil => funext x; simp [apps, dropS]
  | cons t ts ih =>
    simp only [List.map_cons, apps]
    rw [ih, drop_app]
    funext x
    simp only [dropS]
    by_cases h1 : x ∈ ts <;> by_cases h2 : x = t <;> simp [h1, h2]

theorem app_set_dropC (d : Nat) (S : List Nat) (A : AV) (e : Env) : (Wr.set d A).app (dropS (d :: S) e) = (Wr.set d A).app (dropS S e) := by
  funext x
  simp only [Wr.app]
  by_cases hxd : x = d
  · cases isOwn A <;> simp [upd, hxd]
  · cases isOwn A <;> simp [upd, kill, dropS, hxd]

def gaF (src : Nat → Option Nat) (ts : List Nat) (d : Nat) : List Nat → Option (List Nat)
  | [] => none
  | [x] => if x = d ∨ x ∈ ts then none else some [x]
  | x :: k :: r => if x = d then (src k).map fun t => t :: r else if x ∈ ts then none else some (x :: k :: r)

theorem gaF_inj {src : Nat → Option Nat} {ts : List Nat} {d : Nat} (hs : ∀ j k t, src j = some t → src k = some t → j = k) (hts : ∀ k t, src k = some t → t ∈ ts) :
    ∀ r1 r2 x, gaF src ts d r1 = some x → gaF src ts d r2 = some x → r1 = r2 := by
  intro r1 r2 x h1 h2
  rcases r1 with _ | ⟨a, _ | ⟨k, r1⟩⟩
  · simp [gaF] at h1
  · simp only [gaF] at h1
    split at h1
    · cases h1
    · rename_i hn
      injection h1 with h1
      subst h1
      rcases r2 with _ | ⟨b, _ | ⟨j, r2⟩⟩
      · simp [gaF] at h2
      · simp only [gaF] at h2
        split at h2
        · cases h2
        · injection h2 with h2; exact h2.symm
      · simp only [gaF] at h2
        split at h2
        · cases hj : src j with
          | none => simp [hj] at h2
          | some t =>
            simp [hj] at h2
            exact absurd (.inr (h2.1 ▸ hts _ _ hj)) hn
        · split at h2
          · cases h2
          · simp at h2
  · simp only [gaF] at h1
    split at h1
    · rename_i ha
      cases hk : src k with
      | none => simp [hk] at h1
      | some t =>
        simp only [hk, Option.map_some, Option.some.injEq] at h1
        subst h1
        rcases r2 with _ | ⟨b, _ | ⟨j, r2⟩⟩
        · simp [gaF] at h2
        · simp only [gaF] at h2
          split at h2
          · cases h2
          · rename_i hn
            simp at h2
            exact absurd (.inr (h2.1 ▸ hts _ _ hk)) hn
        · simp only [gaF] at h2
          split at h2
          · rename_i hb
            cases hj : src j with
            | none => simp [hj] at h2
            | some t' =>
              simp [hj] at h2
              have := hs k j t hk (by rw [hj, h2.1])
              simp_all
          · split at h2
            · cases h2
            · rename_i hn
              simp at h2
              exact absurd (h2.1 ▸ hts _ _ hk) hn
    · rename_i ha
      split at h1
      · cases h1
      · rename_i hn
        injection h1 with h1
        subst h1
        rcases r2 with _ | ⟨b, _ | ⟨j, r2⟩⟩
        · simp [gaF] at h2
        · simp only [gaF] at h2
          split at h2
          · cases h2
          · simp at h2
        · simp only [gaF] at h2
          split at h2
          · cases hj : src j with
            | none => simp [hj] at h2
            | some t' =>
              simp [hj] at h2
              exact absurd (h2.1 ▸ hts _ _ hj) hn
          · split at h2
            · cases h2
            · injection h2 with h2; exact h2.symm

def withB (β : List Nat → Option Nat) (d b : Nat) : List Nat → Option Nat := fun r => if r = [d] then some b else β r

theorem withB_inj {β : List Nat → Option Nat} {d b : Nat} (h : ∀ p q b, β p = some b → β q = some b → p = q) (hb : ∀ p, β p ≠ some b) : ∀ p q b', withB β d b p = some b' → withB β d b q = some b' → p = q := by
  intro p q b' h1 h2
  unfold withB at h1 h2
  split at h1 <;> split at h2
  · simp_all
  · injection h1 with h1; subst h1; exact absurd h2 (hb q)
  · injection h2 with h2; subst h2; exact absurd h1 (hb p)
  · exact h p q b' h1 h2

abbrev Parts := List (Nat × AV × Option Nat)

def srcs (ps : Parts) : List Nat := ps.filterMap fun p => p.2.2
def srcOf (ps : Parts) (k : Nat) : Option Nat := (ps.find? fun p => p.1 == k).bind fun p => p.2.2
def foldP (ps : Parts) (l : List AV) : List AV := ps.foldl (fun l p => l.set p.1 p.2.1) l

noncomputable def rdParts : List (Nat × Operand) → (Parts → Rd) → Rd
  | [], k => k []
  | (i, x) :: ps, k => rdVal x fun A src => rdParts ps fun l => k ((i, A, src) :: l)

def PartsOK (Z : Nat → Option Obj) (H : Array Obj) (β : List Nat → Option Nat) (e : Env) (ps : Parts) (vs : List (Nat × Value)) : Prop :=
  List.map (·.1) ps = List.map (·.1) vs ∧ ∀ (i : Nat) (h : i < ps.length) (h' : i < vs.length),
    (∀ t, (ps[i]).2.2 = some t → e t = (ps[i]).2.1 ∧ isOwn (ps[i]).2.1 = true ∧ ORep Z H β [t] (ps[i]).2.1 (vs[i]).2) ∧ ((ps[i]).2.2 = none → ∀ Z' H' β' p, (∀ b o, Z b = some o → Z' b = some o) → ORep Z' H' β' p (ps[i]).2.1 (vs[i]).2)

theorem rdParts_sound {e : Env} {ws : List Wr} : ∀ (xs : List (Nat × Operand)) (k : Parts → Rd), (rdParts xs k).Wo e ws → ∃ ps, (k ps).Wo e ws ∧ (∀ p ∈ ps, ∀ s q, p.2.1 ≠ .alias s q ∧ p.2.1 ≠ .valias s q ∧ p.2.1 ≠ .addr s q ∧ ∀ k, p.2.1 ≠ .win s q k) ∧
    ∀ {κ Z β w} {a : Act}, Rep κ Z β e (vals a) w → PartsOK Z w.heap β e ps (xs.map fun p => (p.1, a.eval p.2))
  | [], k, h => ⟨[], h, by simp, fun _ => ⟨rfl, fun i h => by simp at h⟩⟩
  | (i, x) :: xs, k, h => by
    obtain ⟨A, src, h, hpl, hsrc, hval⟩ := rdVal_sound h
    obtain ⟨ps, h, hpls, hps⟩ := rdParts_sound xs _ h
    refine ⟨_, h, ?_, fun {κ Z β w a} hR => ?_⟩
    · intro p hp
      rcases List.mem_cons.1 hp with rfl | hp
      · exact hpl
      · exact hpls p hp
    · obtain ⟨h1, h2⟩ := hps hR
      obtain ⟨h3, h4, h5⟩ := hval hR
      refine ⟨by simpa using h1, fun j hj hj' => ?_⟩
      cases j with
      | zero =>
        refine ⟨fun t ht => ?_, fun hn Z' H' β' p hZ => ?_⟩
        · have := hsrc t ht
          exact ⟨this.2.1, this.2.2, h3 t ht⟩
        · rcases h5 hn with hp | ⟨hA, hv⟩
          · exact .pers ((ORep.toP (h4 hn p) hp).mono hZ)
          · simp only [List.getElem_cons_zero, List.map_cons]
            rw [hA, hv]; exact .nil
      | succ j => exact h2 j (by simpa using hj) (by simpa using hj')

theorem foldP_rep {Rel : Nat → AV → Value → Prop} : ∀ (ps : Parts) (vs : List (Nat × Value)) (l : List AV) (cs : Array Value), cs.size = l.length → List.map (·.1) ps = List.map (·.1) vs →
    (∀ (i : Nat) (h : i < ps.length) (h' : i < vs.length), Rel (ps[i]).1 (ps[i]).2.1 (vs[i]).2) → (∀ k (h : k < l.length), Rel k l[k] (cs.getD k undef)) →
    (vs.foldl (fun (cs : Array Value) p => cs.setIfInBounds p.1 p.2) cs).size = (foldP ps l).length ∧ ∀ k (h : k < (foldP ps l).length), Rel k (foldP ps l)[k] ((vs.foldl (fun (cs : Array Value) p => cs.setIfInBounds p.1 p.2) cs).getD k undef)
  | [], vs, l, cs, hs, hm, _, hk => by
    have : vs = [] := by simpa using hm.symm
    subst this
    exact ⟨by simpa [foldP] using hs, by simpa [foldP] using hk⟩
  | p :: ps, [], l, cs, hs, hm, _, hk => by simp at hm
  | p :: ps, v :: vs, l, cs, hs, hm, hR, hk => by
    simp only [List.map_cons, List.cons.injEq] at hm
    have h0 := hR 0 (by simp) (by simp)
    simp only [List.getElem_cons_zero] at h0
    have := foldP_rep ps vs (l.set p.1 p.2.1) (cs.setIfInBounds v.1 v.2) (by simpa using hs) hm.2 (fun i h h' => hR (i + 1) (by simp; omega) (by simp; omega)) (fun k h => by
      have hkl : k < l.length := by simpa using h
      by_cases hp : p.1 = k
      · subst hp
        rw [← hm.1]
        have hlt : p.1 < cs.size := by omega
        simpa [Array.getD_eq_getD_getElem?, Array.getElem?_setIfInBounds, hlt] using h0
      · rw [List.getElem_set_ne hp, ← hm.1]
        simpa [Array.getD_eq_getD_getElem?, Array.getElem?_setIfInBounds_ne hp] using hk k hkl)
    simpa [foldP] using this

theorem fill_one {place : Nat → Option (Nat × Nat)} {off : Nat → Nat} : ∀ (vs : List (Nat × Value)) (cs : Array Value), (∀ p ∈ vs, place p.1 = some (off p.1, 1) ∧ p.2.cells = #[p.2] ∧ off p.1 < cs.size) →
    Instr.fill place cs vs = some ((vs.map fun p => (off p.1, p.2)).foldl (fun (cs : Array Value) p => cs.setIfInBounds p.1 p.2) cs)
  | [], cs, _ => by simp [Instr.fill]
  | (i, v) :: vs, cs, h => by
    obtain ⟨h1, h2, h3⟩ := h (i, v) (by simp)
    simp only at h1 h2 h3
    have h4 : ¬ (cs.size < off i + 1) := by omega
    simp only [Instr.fill, h1, h2, List.map_cons, List.foldl_cons]
    rw [if_neg (by simp; omega)]
    have e1 : (Array.foldl (fun (cs : Array Value) (x : Value × Nat) => match x with | (c, j) => cs.setIfInBounds (off i + j) c) cs (#[v].zipIdx)) = cs.setIfInBounds (off i) v := by
      simp [Array.zipIdx]
    refine Eq.trans ?_ (fill_one vs (cs.setIfInBounds (off i) v) fun p hp => by simpa using h p (by simp [hp]))
    congr 1

theorem nodup_src {ps : Parts} (hk : (ps.map (·.1)).Nodup) (i : Nat) (h : i < ps.length) : srcOf ps (ps[i]).1 = (ps[i]).2.2 := by
  unfold srcOf
  have : ps.find? (fun p => p.1 == (ps[i]).1) = some ps[i] := by
    rw [List.find?_eq_some_iff_getElem]
    refine ⟨by simp, i, h, rfl, fun j hj => ?_⟩
    have := List.pairwise_iff_getElem.1 hk j i (by simp; omega) (by simpa using h) hj
    simpa using this
  rw [this]; rfl

theorem srcs_inj {ps : Parts} (hs : (srcs ps).Nodup) (hk : (ps.map (·.1)).Nodup) : (∀ j k t, srcOf ps j = some t → srcOf ps k = some t → j = k) ∧ ∀ k t, srcOf ps k = some t → t ∈ srcs ps := by
  have hf : ∀ k t, srcOf ps k = some t → ∃ p ∈ ps, p.1 = k ∧ p.2.2 = some t := by
    intro k t h
    unfold srcOf at h
    cases hf : ps.find? fun p => p.1 == k with
    | none => simp [hf] at h
    | some p =>
      simp [hf] at h
      exact ⟨p, List.mem_of_find?_eq_some hf, by simpa using List.find?_some hf, h⟩
  refine ⟨fun j k t h1 h2 => ?_, fun k t h => ?_⟩
  · obtain ⟨p, hp, rfl, hpt⟩ := hf j t h1
    obtain ⟨q, hq, rfl, hqt⟩ := hf k t h2
    clear h1 h2 hf hk
    induction ps with
    | nil => cases hp
    | cons x ps ih =>
      simp only [srcs, List.filterMap_cons] at hs
      rcases List.mem_cons.1 hp with rfl | hp' <;> rcases List.mem_cons.1 hq with rfl | hq'
      · rfl
      · simp only [hpt, List.nodup_cons] at hs
        exact absurd (List.mem_filterMap.2 ⟨q, hq', hqt⟩) hs.1
      · simp only [hqt, List.nodup_cons] at hs
        exact absurd (List.mem_filterMap.2 ⟨p, hp', hpt⟩) hs.1
      · refine ih ?_ hp' hq'
        split at hs
        · exact hs
        · exact (List.nodup_cons.1 hs).2
  · obtain ⟨p, hp, _, hpt⟩ := hf k t h
    exact List.mem_filterMap.2 ⟨p, hp, hpt⟩

theorem gather {κ : Con} {Z : Nat → Option Obj} {β : List Nat → Option Nat} {e : Env} {val : Nat → Value} {w : World} (h : Rep κ Z β e val w) {ps : Parts} {vs : List (Nat × Value)} {d : Nat} {H' : Array Obj}
    (hp : PartsOK Z w.heap β e ps vs) (hs : (srcs ps).Nodup) (hk : (ps.map (·.1)).Nodup) (hH : ∀ b, b < w.heap.size → H'[b]? = w.heap[b]?) (β' : List Nat → Option Nat) (hβ : ∀ k r, β' (d :: k :: r) = viaF (gaF (srcOf ps) (srcs ps) d) β (d :: k :: r)) :
    ∀ (i : Nat) (h : i < ps.length) (h' : i < vs.length), ORep Z H' β' [d, (ps[i]).1] (ps[i]).2.1 (vs[i]).2 := by
  intro i hi hi'
  obtain ⟨h1, h2⟩ := hp.2 i hi hi'
  cases hsrc : (ps[i]).2.2 with
  | none => exact h2 hsrc _ _ _ _ (fun _ _ h => h)
  | some t =>
    obtain ⟨h3, h4, h5⟩ := h1 t hsrc
    refine h5.move (fun _ _ h => h) fun r b hb => ⟨?_, hH b (h.bo _ b hb).2.2⟩
    show β' (d :: (ps[i]).1 :: r) = some b
    rw [hβ]
    have := nodup_src hk i hi
    simp [viaF, gaF, this, hsrc]
    exact hb

theorem Rep.bigParts {κ : Con} {Z : Nat → Option Obj} {β : List Nat → Option Nat} {e : Env} {val : Nat → Value} {w w' : World} (h : Rep κ Z β e val w) (ts : List Nat) (d : Nat) (f : List Nat → Option (List Nat)) (A : AV) (u : Value) (β' : List Nat → Option Nat)
    (hos : w'.os = w.os) (htape : w'.tape = w.tape) (hout : w'.output = w.output) (hsize : w.heap.size ≤ w'.heap.size) (hH : ∀ b, b < w.heap.size → w'.heap[b]? = w.heap[b]?)
    (hf : ∀ r, r ≠ [] → root r ∉ d :: ts → f r = some r) (hβ : (β' = viaF f β) ∨ (β' = withB (viaF f β) d w.heap.size ∧ w.heap.size < w'.heap.size)) (hinj : ∀ r1 r2 x, f r1 = some x → f r2 = some x → r1 = r2)
    (hA : ORep Z w'.heap β' [d] A u) (hAv : ∀ s p, A ≠ .alias s p ∧ A ≠ .valias s p ∧ A ≠ .addr s p ∧ ∀ k, A ≠ .win s p k) : Rep κ Z β' (apps ((ts.map fun t => .set t .junk) ++ [.set d A]) e) (setV val d u) w' := by
  rw [apps_append, apps_drops]
  show Rep κ Z β' ((Wr.set d A).app (dropS ts e)) _ w'
  rw [← app_set_dropC]
  have hlt : ∀ p b, viaF f β p = some b → new κ b ∧ Z b = none ∧ b < w.heap.size := viaF_bo h.bo
  refine h.big (d :: ts) d (by simp) A u hos htape hout hsize (fun b _ hb => hH b hb) (fun _ _ h => h) (fun _ _ h => .inl h) (fun b o ho => (hH b (Array.getElem?_eq_some_iff.1 (h.zh b o ho)).1).trans (h.zh b o ho))
    (fun r b hr hn hb => ⟨?_, hH b (h.bo r b hb).2.2⟩) ?_ ?_ hA hAv
  · have h1 : viaF f β r = some b := by simp [viaF, hf r hr hn, hb]
    rcases hβ with rfl | ⟨rfl, _⟩
    · exact h1
    · unfold withB
      rw [if_neg (by rintro rfl; simp [root] at hn)]
      exact h1
  · rcases hβ with rfl | ⟨rfl, _⟩
    · exact viaF_inj hinj h.inj
    · exact withB_inj (viaF_inj hinj h.inj) fun p hp => by have := hlt p _ hp; omega
  · intro p b hp
    rcases hβ with rfl | ⟨rfl, hs⟩
    · have := hlt p b hp; exact ⟨this.1, this.2.1, by omega⟩
    · unfold withB at hp
      split at hp
      · injection hp with hp
        subst hp
        refine ⟨.inr h.size, ?_, hs⟩
        cases hz : Z w.heap.size with
        | none => rfl
        | some o => have := (Array.getElem?_eq_some_iff.1 (h.zh _ o hz)).1; omega
      · have := hlt p b hp; exact ⟨this.1, this.2.1, by omega⟩

theorem gaF_keep (src : Nat → Option Nat) (ts : List Nat) (d : Nat) : ∀ r, r ≠ [] → root r ∉ d :: ts → gaF src ts d r = some r := by
  intro r hr hn
  rcases r with _ | ⟨x, _ | ⟨k, r⟩⟩
  · exact absurd rfl hr
  · simp [root] at hn; simp [gaF, hn]
  · simp [root] at hn; simp [gaF, hn]

def partW (ps : Parts) : List Wr := (srcs ps).map fun t => .set t .junk

noncomputable def rdBuildS (P : Program) (T d n : Nat) (xs : List (Nat × Operand)) : Rd := .need (slOK P T = true ∧ n ≤ 4096) (rdParts xs fun ps => .need ((srcs ps).Nodup ∧ (ps.map (·.1)).Nodup ∧ (∀ p ∈ ps, one p.2.1 = true ∧ p.1 < n) ∧ d ∉ srcs ps)
  (.ret (partW ps ++ [.set d (.own (foldP ps (List.replicate n (slZ P T))))])))

theorem partsOne {Z H β e ps vs} (hp : PartsOK Z H β e ps vs) (h1 : ∀ p ∈ ps, one p.2.1 = true) : ∀ v ∈ vs, v.2.oneCell' = true := by
  intro v hv
  obtain ⟨i, hi, rfl⟩ := List.getElem_of_mem hv
  have hl : ps.length = vs.length := by simpa using congrArg List.length hp.1
  obtain ⟨h2, h3⟩ := hp.2 i (by omega) hi
  have h4 := h1 _ (List.getElem_mem (show i < ps.length by omega))
  cases hsrc : (ps[i]'(by omega)).2.2 with
  | none => exact ORep.one (h3 hsrc Z H β [] (fun _ _ h => h)) h4
  | some t => exact ORep.one (h2 t hsrc).2.2 h4

theorem slZ_rep {P : Program} {T E : Nat} {i : TypeInfo} {z : Value} (hu : P.underlying T = some (.slice E)) (hi : P.info? E = some i) (hz : i.zero = some z) {Z H β p} : ORep Z H β p (slZ P T) z := by
  have : slZ P T = cst z := by simp [slZ, slE, hu, zOf, hi, hz]
  rw [this]
  by_cases h : cst z = .junk
  · rw [h]; exact .pers (.junk _)
  · exact cst_rep p z h

end Go.Proofs.Ytehdfifncbokeaa

namespace Go.Proofs.Ytehdfifncbokeaa
set_option linter.unusedSimpArgs false
set_option linter.unusedVariables false
set_option maxRecDepth 8000
set_option maxHeartbeats 2000000
open Go Go.RowKit AV

theorem foldl_one {vs : List (Nat × Value)} : ∀ {cs : Array Value}, (∀ v ∈ vs, v.2.oneCell' = true) → (∀ k, k < cs.size → (cs.getD k undef).oneCell' = true) →
    ∀ k, k < cs.size → ((vs.foldl (fun (cs : Array Value) p => cs.setIfInBounds p.1 p.2) cs).getD k undef).oneCell' = true := by
  induction vs with
  | nil => intro cs _ h k hk; exact h k hk
  | cons v vs ih =>
    intro cs h1 h2 k hk
    refine ih (fun v hv => h1 v (by simp [hv])) (fun j hj => ?_) k (by simpa using hk)
    have hj' : j < cs.size := by simpa using hj
    by_cases hv : v.1 = j
    · subst hv
      simpa [Array.getD_eq_getD_getElem?, Array.getElem?_setIfInBounds, hj'] using h1 v (by simp)
    · simpa [Array.getD_eq_getD_getElem?, Array.getElem?_setIfInBounds_ne hv] using h2 j hj'

theorem foldl_size {vs : List (Nat × Value)} : ∀ {cs : Array Value}, (vs.foldl (fun (cs : Array Value) p => cs.setIfInBounds p.1 p.2) cs).size = cs.size := by
  induction vs with
  | nil => intro cs; rfl
  | cons v vs ih => intro cs; simp only [List.foldl_cons]; rw [ih]; simp

theorem foldP_length (ps : Parts) : ∀ l : List AV, (foldP ps l).length = l.length := by
  induction ps with
  | nil => intro l; rfl
  | cons p ps ih => intro l; show (foldP ps (l.set p.1 p.2.1)).length = _; rw [ih]; simp

theorem rdBuildS_sound {P : Program} {κ : Con} {o : Oper} {e : Env} {ws : List Wr} {T d n : Nat} {xs : Array (Nat × Operand)} (ho : o.op = .buildSlice T n xs) (hd : o.dst = some d) (hn : (κ.lim.1 ≤ d ∧ d < κ.lim.2)) (h : (rdBuildS P T d n xs.toList).Wo e ws) : Does P κ o e ws := by
  obtain ⟨⟨hT, hn4⟩, h⟩ := h
  obtain ⟨ps, ⟨⟨hs, hk, hone, hds⟩, hw⟩, hpl, hps⟩ := rdParts_sound _ _ h
  have hw' : ws = _ := hw
  subst hw'
  obtain ⟨E, i, z, hu, hi, hi1, hi2, hz, hz1⟩ := slOK_spec hT
  refine does_value hd hn fun a w Z β hR => ?_
  have hpo := hps hR
  generalize hvs : (xs.toList.map fun p => (p.1, a.eval p.2)) = vs at hpo
  have hv1 := partsOne hpo fun p hp => (hone p hp).1
  have hvn : ∀ v ∈ vs, v.1 < n := by
    intro v hv
    have : v.1 ∈ List.map (·.1) vs := List.mem_map.2 ⟨v, hv, rfl⟩
    rw [← hpo.1] at this
    obtain ⟨p, hp, hpe⟩ := List.mem_map.1 this
    rw [← hpe]; exact (hone p hp).2
  let cs0 : Array Value := Array.replicate n z
  let cs1 := vs.foldl (fun (cs : Array Value) p => cs.setIfInBounds p.1 p.2) cs0
  have hfill : Instr.fill (fun i => some (i * 1, 1)) cs0 vs = some cs1 := by
    have := fill_one (place := fun i => some (i * 1, 1)) (off := fun i => i) vs cs0 (fun p hp => ⟨by simp, cells_one (hv1 p hp), by simpa [cs0] using hvn p hp⟩)
    rw [this]
    simp [cs1]
  have hzc := cells_one hz1
  have hrun : (execOp a.eval o).run P w = .ok (.value (.slice (some ⟨w.heap.size, 0, none⟩) n n)) (w.alloc (.cells cs1 E)) := by
    have hcells : ((Array.range n).map fun j => (#[z] : Array Value)[j % (#[z] : Array Value).size]!) = cs0 := by
      apply Array.ext
      · simp [cs0]
      · intro j h1 h2; simp [cs0, Nat.mod_one]
    have h24 : ¬ (16777216 < n) := by omega
    simp only [execOp, ho]
    by_cases hn0 : n = 0
    · subst hn0
      have hc1 : cs1 = #[] := Array.eq_empty_of_size_eq_zero (by show (vs.foldl _ cs0).size = 0; rw [foldl_size]; simp [cs0])
      have hv0 : vs = [] := by
        cases vs with
        | nil => rfl
        | cons v vs => have := hvn v (by simp); omega
      rw [hv0] at hvs
      simp [Instr.buildSlice, run_underlying hu, sizeOf, typeInfo, hi, hi1, hvs, Instr.fill, newRow, hc1, Array.range_zero']
    · simp [Instr.buildSlice, run_underlying hu, sizeOf, typeInfo, zeroValue, hi, hi1, hz, hn0, h24, hvs, newRow]
      have e2 : (Array.map (fun x => z.cells[x % z.cells.size]!) (Array.range n)) = cs0 := by rw [hzc]; exact hcells
      have e3 := hfill
      simp only [Nat.mul_one] at e3
      rw [e2, e3]
      simp
  have hβ0 : ∀ k r, withB (viaF (gaF (srcOf ps) (srcs ps) d) β) d w.heap.size (d :: k :: r) = viaF (gaF (srcOf ps) (srcs ps) d) β (d :: k :: r) := by
    intro k r; simp [withB]
  have hg := gather hR hpo hs hk (H' := (w.alloc (.cells cs1 E)).heap) (fun b hb => Below.heap_alloc w _ b hb) _ hβ0
  have hrel := foldP_rep (Rel := fun k A v => ORep Z (w.alloc (.cells cs1 E)).heap (withB (viaF (gaF (srcOf ps) (srcs ps) d) β) d w.heap.size) [d, k] A v) ps vs (List.replicate n (slZ P T)) cs0 (by simp [cs0]) hpo.1 hg (fun k hk => by
    have hk' : k < n := by simpa using hk
    have : cs0.getD k undef = z := by simp [cs0, Array.getD_eq_getD_getElem?, hk']
    rw [this, List.getElem_replicate]
    exact slZ_rep hu hi hz)
  have hlen : (foldP ps (List.replicate n (slZ P T))).length = n := by rw [foldP_length]; simp
  have hsz : cs1.size = n := by show (vs.foldl _ cs0).size = n; rw [foldl_size]; simp [cs0]
  have hori := ORep.own (Z := Z) (H := (w.alloc (.cells cs1 E)).heap) (β := withB (viaF (gaF (srcOf ps) (srcs ps) d) β) d w.heap.size) (p := [d]) (foldP ps (List.replicate n (slZ P T))) w.heap.size n cs1 E (fun k => cs1.getD k undef) (by simp [withB]) (heap_alloc_new w _) (by omega) (by omega) (by unfold maxLen; omega) (fun k hk => by
      rw [hlen] at hk; simp [Array.getD_eq_getD_getElem?, hsz, hk]) (fun k hk => by
      refine foldl_one hv1 (fun j hj => ?_) k (by rw [hlen] at hk; simpa [cs0] using hk)
      have hj' : j < n := by simpa [cs0] using hj
      simpa [cs0, Array.getD_eq_getD_getElem?, hj'] using hz1) (fun k hk => hrel.2 k hk)
  rw [hlen] at hori
  exact ⟨_, _, Z, _, hrun, hR.bigParts (srcs ps) d (gaF (srcOf ps) (srcs ps) d) _ _ _ rfl rfl rfl (by simp) (fun b hb => Below.heap_alloc w _ b hb) (gaF_keep _ _ _) (.inr ⟨rfl, by simp⟩) (gaF_inj (srcs_inj hs hk).1 (srcs_inj hs hk).2) hori (by simp)⟩

noncomputable def rdMakeS (P : Program) (T d : Nat) (x y : Operand) : Rd := .need (slOK P T = true) (rdX x fun A => rdX y fun B => match A, B with
  | .num .i64 m, .num .i64 n => .need (m = n ∧ 0 ≤ m ∧ m ≤ 1099511627776) (.ret [.set d (.own (List.replicate m.toNat (slZ P T)))])
  | _, _ => .fail)

theorem rdMakeS_sound {P : Program} {κ : Con} {o : Oper} {e : Env} {ws : List Wr} {T d : Nat} {x y : Operand} (ho : o.op = .makeSlice T x y) (hd : o.dst = some d) (hn : (κ.lim.1 ≤ d ∧ d < κ.lim.2)) (h : (rdMakeS P T d x y).Wo e ws) : Does P κ o e ws := by
  obtain ⟨hT, h⟩ := h
  obtain ⟨A, h0, -, hA⟩ := rdX_sound h; replace h := h0; clear h0
  obtain ⟨B, h0, -, hB⟩ := rdX_sound h; replace h := h0; clear h0
  split at h
  · rename_i m n
    obtain ⟨⟨rfl, hm0, hm1⟩, hw⟩ := h
    have hw' : ws = _ := hw
    subst hw'
    obtain ⟨E, i, z, hu, hi, hi1, hi2, hz, hz1⟩ := slOK_spec hT
    refine does_value hd hn fun a w Z β hR => ?_
    have hx := hA hR rfl
    have hy := hB hR rfl
    obtain ⟨k, rfl⟩ : ∃ k : Nat, m = k := ⟨m.toNat, by omega⟩
    have hmk := run_make_row (P := P) T E i z hu hi hz hi1 (cells_one hz1) .i64 .i64 k (by
      have := Nat.mul_le_mul hi2 (show k ≤ 1099511627776 by omega); omega) (by omega) w
    have hrun : (execOp a.eval o).run P w = .ok (.value (.slice (some ⟨w.heap.size, 0, none⟩) k k)) (w.alloc (.cells (madeCells #[z] k) E)) := by
      simp only [execOp, ho]
      generalize a.eval x = vx at hx
      generalize a.eval y = vy at hy
      cases hx; cases hy
      rw [Sem.run_bind, hmk]; rfl
    have hcell : ∀ j, j < k → (madeCells #[z] k)[j]? = some z := fun j hj => by simp [madeCells, hj, Nat.mod_one]
    have hori := ORep.own (Z := Z) (H := (w.alloc (.cells (madeCells #[z] k) E)).heap) (β := withB (viaF (gaF (srcOf []) (srcs []) d) β) d w.heap.size) (p := [d]) (List.replicate k (slZ P T)) w.heap.size k _ E (fun _ => z) (by simp [withB]) (heap_alloc_new w _) (by simp) (by simp [size_madeCells]) (by unfold maxLen; omega) (fun j hj => hcell j (by simpa using hj)) (fun _ _ => hz1) (fun j hj => by
      rw [List.getElem_replicate]; exact slZ_rep hu hi hz)
    rw [List.length_replicate] at hori
    have := hR.bigParts (srcs []) d (gaF (srcOf []) (srcs []) d) (.own (List.replicate k (slZ P T))) (.slice (some ⟨w.heap.size, 0, none⟩) k k) (withB (viaF (gaF (srcOf []) (srcs []) d) β) d w.heap.size) (w' := w.alloc (.cells (madeCells #[z] k) E)) rfl rfl rfl (by simp) (fun b hb => Below.heap_alloc w _ b hb) (gaF_keep _ _ _) (.inr ⟨rfl, by simp⟩) (gaF_inj (by simp [srcOf]) (by simp [srcOf])) hori (by simp)
    exact ⟨_, _, Z, _, hrun, by simpa [srcs] using this⟩
  · exact h.elim

noncomputable def rdBd (x : Option Operand) (dflt : Int) (k : Int → Rd) : Rd := match x with
  | none => k dflt
  | some x => rdX x fun A => match A with
    | .num _ n => k n
    | _ => .fail

noncomputable def rdSlice (P : Program) (T d : Nat) (x : Operand) (lo hi : Option Operand) : Rd := match x with
  | .tmp t => .need (slOK P T = true) (.get t fun v => match v with
    | .sh l => rdBd lo 0 fun m => rdBd hi l.length fun n => .need (0 ≤ m ∧ m ≤ n ∧ n ≤ l.length) (.ret [.set d (.sh ((l.take n.toNat).drop m.toNat))])
    | .own l => (match hi, lo with
      | none, lo => rdBd lo 0 fun m => .need (t ≠ d ∧ 0 ≤ m ∧ m ≤ l.length) (.ret [.set d (.win t [] m.toNat)])
      | some y, none => rdBd (some y) l.length fun n => .need (t ≠ d ∧ 0 ≤ n ∧ n ≤ l.length) (.ret [.set d (.win t [] (bigW + n.toNat))])
      | some _, some _ => .fail)
    | .alias s q => .get s fun c => rdGetP c q fun X => match X with
      | .own l => (match hi, lo with
        | none, lo => rdBd lo 0 fun m => .need (s ≠ d ∧ 0 ≤ m ∧ m ≤ l.length) (.ret [.set d (.win s q m.toNat)])
        | some y, none => rdBd (some y) l.length fun n => .need (s ≠ d ∧ 0 ≤ n ∧ n ≤ l.length) (.ret [.set d (.win s q (bigW + n.toNat))])
        | some _, some _ => .fail)
      | _ => .fail
    | _ => .fail)
  | _ => .fail

theorem rdBd_sound {e : Env} {x : Option Operand} {dflt : Int} {k : Int → Rd} {ws : List Wr} (h : (rdBd x dflt k).Wo e ws) : ∃ n, (k n).Wo e ws ∧ (x = none → n = dflt) ∧ ∀ {κ Z β w} {a : Act}, Rep κ Z β e (vals a) w → ∀ y, x = some y → ∃ kk, a.eval y = .int kk n := by
  cases x with
  | none => exact ⟨_, h, fun _ => rfl, fun _ y hy => by cases hy⟩
  | some x =>
    obtain ⟨A, h0, -, hA⟩ := rdX_sound h; replace h := h0; clear h0
    split at h
    · rename_i kk n
      refine ⟨n, h, by simp, fun {κ Z β w a} hR y hy => ?_⟩
      injection hy with hy; subst hy
      have := hA hR rfl
      generalize a.eval x = v at this
      cases this
      exact ⟨kk, rfl⟩
    · exact h.elim

theorem run_bound {P : Program} {w : World} {kk : IntKind} {n : Int} {y : Nat} {code} (h0 : 0 ≤ n) (h1 : n ≤ y) : (Instr.sliceBound (.int kk n) y code).run P w = .ok n.toNat w := by
  simp [Instr.sliceBound, asIntOf, h0, h1]

theorem run_slice' {P : Program} {w : World} {T : Nat} {A : Option Addr} {len c : Nat} {lo hi : Option Value} {m n : Int} (hT : slOK P T = true) (hm : 0 ≤ m) (hmn : m ≤ n) (hn : n ≤ len) (hc : len ≤ c)
    (c1 : (hi = none ∧ n = len) ∨ ∃ kk, hi = some (.int kk n)) (c2 : (lo = none ∧ m = 0) ∨ ∃ kk, lo = some (.int kk m)) :
    (Instr.sliceAt T (.slice A len c) lo hi none).run P w = .ok (.slice (if c = m.toNat then A else A.map (·.add m.toNat)) (n.toNat - m.toNat) (c - m.toNat)) w := by
  obtain ⟨E, i, z, hu, hi', hi1, _, _, _⟩ := slOK_spec hT
  have hbounds : (Instr.sliceBounds true len c lo hi none).run P w = .ok (m.toNat, n.toNat, c) w := by
    have b1 := fun kk => run_bound (P := P) (w := w) (kk := kk) (n := n) (y := c) (code := .sliceAcap) (by omega) (by omega)
    have b2 := fun kk => run_bound (P := P) (w := w) (kk := kk) (n := m) (y := n.toNat) (code := .sliceB) (by omega) (by omega)
    rcases c1 with ⟨g1, rfl⟩ | ⟨k1, g1⟩ <;> rcases c2 with ⟨g2, rfl⟩ | ⟨k2, g2⟩
    · simp [Instr.sliceBounds, g1, g2]
    · simp only [Int.toNat_natCast] at b2; simp [Instr.sliceBounds, g1, g2, b2]
    · simp [Instr.sliceBounds, g1, g2, b1]
    · simp [Instr.sliceBounds, g1, g2, b1, b2]
  simp [Instr.sliceAt, Instr.slice, run_underlying hu, hbounds, sizeOf, typeInfo, hi', hi1]

theorem bd_val {x : Option Operand} {dflt n : Int} {f : Operand → Value} (h1 : x = none → n = dflt) (h2 : ∀ y, x = some y → ∃ kk, f y = .int kk n) : (x.map f = none ∧ n = dflt) ∨ ∃ kk, x.map f = some (.int kk n) := by
  cases x with
  | none => exact .inl ⟨rfl, h1 rfl⟩
  | some y => obtain ⟨kk, hy⟩ := h2 y rfl; exact .inr ⟨kk, by simp [hy]⟩

theorem ORep.slcap {Z H β p l v} (h : ORep Z H β p (.own l) v) : ∃ A c, v = .slice A l.length c ∧ l.length ≤ c ∧ l.length ≤ maxLen := by
  cases h with
  | pers h => cases h
  | nil => exact ⟨_, _, rfl, by simp, by simp⟩
  | own l b c cs E us hb hz h1 h2 h3 => exact ⟨_, _, rfl, h1, by omega⟩

theorem rdSlice_sound {P : Program} {κ : Con} {o : Oper} {e : Env} {ws : List Wr} {T d : Nat} {x : Operand} {lo hi : Option Operand} (ho : o.op = .slice T x lo hi none) (hd : o.dst = some d) (hn : (κ.lim.1 ≤ d ∧ d < κ.lim.2)) (h : (rdSlice P T d x lo hi).Wo e ws) : Does P κ o e ws := by
  have hrun : ∀ {a : Act} {w : World} {u : Value}, (Instr.sliceAt T (a.eval x) (lo.map a.eval) (hi.map a.eval) none).run P w = .ok u w → (execOp a.eval o).run P w = .ok (.value u) w := by
    intro a w u hu
    simp only [execOp, ho, Option.map_none]
    rw [Sem.run_bind, hu]; rfl
  cases x with
  | tmp t =>
    obtain ⟨hT, hj, h⟩ := h
    have winC : ∀ (s : Nat) (q : List Nat) (l : List AV) (m : Int), hi = none → s ≠ d → 0 ≤ m → m ≤ l.length → getP (e s) q = some (.own l) → ws = [.set d (.win s q m.toNat)] →
        (∀ {κ Z β w} {a : Act}, Rep κ Z β e (vals a) w → ORep Z w.heap β (s :: q) (.own l) (vals a t)) → ((lo = none → m = 0) ∧ ∀ {κ Z β w} {a : Act}, Rep κ Z β e (vals a) w → ∀ y, lo = some y → ∃ kk, a.eval y = .int kk m) → Does P κ o e ws := by
      intro s q l m hhi hsd h0 h1 hg hws hrep hlo
      subst hws; subst hhi
      refine does_value hd hn fun a w Z β hR => ?_
      have hO := hrep hR
      obtain ⟨A, c, hv, hc, hlc2⟩ := hO.slcap
      have hs := run_slice' (P := P) (w := w) (A := A) (len := l.length) (c := c) (lo := lo.map a.eval) (hi := none) (m := m) (n := l.length) hT h0 h1 (Int.le_refl _) hc (.inl ⟨rfl, rfl⟩) (bd_val hlo.1 (hlo.2 hR))
      refine ⟨_, w, Z, β, hrun (by rw [eval_tmp, hv]; exact hs), ?_⟩
      refine hR.winPut d s q m.toNat _ hsd fun l2 hl2 => ?_
      rw [hg] at hl2
      injection hl2 with hl2; injection hl2 with hl2; subst hl2
      have hmx : l.length ≤ maxLen := hlc2
      have hm : maxLen < bigW := bigW_max
      have hlt : m.toNat < bigW := Nat.lt_of_le_of_lt (by omega : m.toNat ≤ l.length) (Nat.lt_of_le_of_lt hmx hm)
      exact ⟨_, hO, by rw [hv]; simp only [dropV]; rw [if_pos hlt]; simp⟩
    have preC : ∀ (s : Nat) (q : List Nat) (l : List AV) (n : Int) (y : Operand), hi = some y → lo = none → s ≠ d → 0 ≤ n → n ≤ l.length → getP (e s) q = some (.own l) → ws = [.set d (.win s q (bigW + n.toNat))] →
        (∀ {κ Z β w} {a : Act}, Rep κ Z β e (vals a) w → ORep Z w.heap β (s :: q) (.own l) (vals a t)) → (∀ {κ Z β w} {a : Act}, Rep κ Z β e (vals a) w → ∃ kk, a.eval y = .int kk n) → Does P κ o e ws := by
      intro s q l n y hhi hlo hsd h0 h1 hg hws hrep hy
      subst hws; subst hhi; subst hlo
      refine does_value hd hn fun a w Z β hR => ?_
      have hO := hrep hR
      obtain ⟨A, c, hv, hc, hlc2⟩ := hO.slcap
      have hs := run_slice' (P := P) (w := w) (A := A) (len := l.length) (c := c) (lo := none) (hi := some (a.eval y)) (m := 0) (n := n) hT (Int.le_refl _) h0 h1 hc (.inr (by obtain ⟨kk, hy⟩ := hy hR; exact ⟨kk, by rw [← hy]⟩)) (.inl ⟨rfl, rfl⟩)
      have hA : (if c = (0 : Int).toNat then A else A.map (·.add (0 : Int).toNat)) = A := by
        split
        · rfl
        · cases A with
          | none => rfl
          | some ad => simp [Addr.add]
      rw [hA] at hs
      refine ⟨_, w, Z, β, hrun (by rw [eval_tmp, hv]; exact hs), ?_⟩
      refine hR.winPut d s q (bigW + n.toNat) _ hsd fun l2 hl2 => ?_
      rw [hg] at hl2
      injection hl2 with hl2; injection hl2 with hl2; subst hl2
      exact ⟨_, hO, by rw [hv]; simp only [dropV]; rw [if_neg (by omega)]; simp⟩
    cases het : e t with
    | sh l =>
      simp only [het] at h
      obtain ⟨m, h, hm1, hm2⟩ := rdBd_sound h
      obtain ⟨n, h, hn1, hn2⟩ := rdBd_sound h
      obtain ⟨⟨hc1, hc2, hc3⟩, hw⟩ := h
      have hw' : ws = _ := hw
      subst hw'
      refine does_value hd hn fun a w Z β hR => ?_
      have hx := ORep.toP (hR.slot' het (by simp)) rfl
      obtain ⟨A, c, hv⟩ := PRep.len hx
      have hlc : l.length ≤ c ∧ c ≤ maxLen := by
        rw [hv] at hx
        generalize hvv : Value.slice A l.length c = v at hx
        cases hx with
        | nil A c hc => injection hvv with _ _ h3; subst h3; exact ⟨Nat.zero_le _, hc⟩
        | sh l b o c cs E fz us hz h1 h2 => injection hvv with _ _ h3; subst h3; exact ⟨h1, h2⟩
      have hs := run_slice' (P := P) (w := w) (A := A) (len := l.length) (c := c) (lo := lo.map a.eval) (hi := hi.map a.eval) (m := m) (n := n) hT hc1 hc2 hc3 hlc.1 (bd_val hn1 (hn2 hR)) (bd_val hm1 (hm2 hR))
      refine ⟨_, w, Z, β, hrun (by rw [eval_tmp, hv]; exact hs), hR.put d (A := .sh ((l.take n.toNat).drop m.toNat)) ?_ (by simp)⟩
      have hlen : ((l.take n.toNat).drop m.toNat).length = n.toNat - m.toNat := by simp; omega
      generalize vals a t = v at hv hx
      cases hx with
      | nil A' c' hc =>
        injection hv with h1 h2 h3
        subst h3
        have : m.toNat = 0 ∧ n.toNat = 0 := by simp at hc3; omega
        simp only [this.1, this.2, List.take_nil, List.drop_nil, Nat.sub_zero]
        exact .nil _ _ hc
      | sh l b of c cs E' fz us hz h1 h2 hu' h3 hk =>
        injection hv with g1 g2 g3
        subst g3
        subst g1
        have hadd : (⟨b, of, none⟩ : Addr).add m.toNat = ⟨b, of + m.toNat, none⟩ := by unfold Addr.add; split <;> simp_all
        by_cases hcm : c = m.toNat
        · have hm0 : n.toNat - m.toNat = 0 := by omega
          have hnil : (l.take n.toNat).drop m.toNat = [] := List.eq_nil_of_length_eq_zero (by omega)
          rw [hnil, hm0]
          exact .nil _ _ (by omega)
        · rw [if_neg hcm]
          simp only [Option.map_some, hadd]
          have := PRep.sh (Z := Z) ((l.take n.toNat).drop m.toNat) b (of + m.toNat) (c - m.toNat) cs E' fz (fun k => us (m.toNat + k)) hz (by omega) (by omega) (fun k hk => by
            rw [Nat.add_assoc]; exact hu' _ (by omega)) (fun k hk => h3 _ (by omega)) (fun k hk' => by
            simp only [List.getElem_drop, List.getElem_take]
            exact hk _ (by omega))
          rw [hlen] at this
          exact this
    | own l =>
      simp only [het] at h
      split at h
      · obtain ⟨m, h, hm1, hm2⟩ := rdBd_sound h
        obtain ⟨⟨h0, h1, h2⟩, h⟩ := h
        exact winC t [] l m rfl h0 h1 h2 (by rw [het]; rfl) h (fun hR => hR.slot' het (by simp)) ⟨hm1, hm2⟩
      · obtain ⟨n, h, _, hn2⟩ := rdBd_sound h
        obtain ⟨⟨h0, h1, h2⟩, h⟩ := h
        exact preC t [] l n _ rfl rfl h0 h1 h2 (by rw [het]; rfl) h (fun hR => hR.slot' het (by simp)) (fun hR => hn2 hR _ rfl)
      · exact h.elim
    | alias s q =>
      simp only [het] at h
      obtain ⟨hsj, X, hl, h⟩ := h
      dsimp only at h
      split at h
      case h_2 => exact h.elim
      rename_i l
      have hpl := plain_of_own hl rfl
      split at h
      · obtain ⟨m, h, hm1, hm2⟩ := rdBd_sound h
        obtain ⟨⟨h0, h1, h2⟩, h⟩ := h
        exact winC s q l m rfl h0 h1 h2 hl h (fun hR => hR.aliasAt het _ hl rfl) ⟨hm1, hm2⟩
      · obtain ⟨n, h, _, hn2⟩ := rdBd_sound h
        obtain ⟨⟨h0, h1, h2⟩, h⟩ := h
        exact preC s q l n _ rfl rfl h0 h1 h2 hl h (fun hR => hR.aliasAt het _ hl rfl) (fun hR => hn2 hR _ rfl)
      · exact h.elim
    | _ => simp only [het] at h; exact h.elim
  | _ => exact h.elim

noncomputable def rdExtract (d : Nat) (x : Operand) (i : Nat) : Rd := match x with
  | .tmp t => .need (t ≠ d) (.get t fun v => match v with
    | .tup l => rdIdx l i fun A => (if isP A then .ret [.set d A] else if isOwn A then .ret [.set d .junk, .mod t [i] .junk, .set d A] else .fail)
    | _ => .fail)
  | _ => .fail

theorem rdExtract_sound {P : Program} {κ : Con} {o : Oper} {e : Env} {ws : List Wr} {d i : Nat} {x : Operand} (ho : o.op = .extract x i) (hd : o.dst = some d) (hn : (κ.lim.1 ≤ d ∧ d < κ.lim.2)) (h : (rdExtract d x i).Wo e ws) : Does P κ o e ws := by
  cases x with
  | tmp t =>
    obtain ⟨htd, hj, h⟩ := h
    refine does_value hd hn fun a w Z β hR => ?_
    cases het : e t with
    | tup l =>
      simp only [het] at h
      obtain ⟨A, hA, h⟩ := h
      obtain ⟨hlt, rfl⟩ := List.getElem?_eq_some_iff.1 hA
      have hs0 := hR.slot' het (by simp)
      generalize hvv : vals a t = vv at hs0
      have key : ∃ cs, vv = .tuple cs ∧ cs.size = l.length ∧ ORep Z w.heap β [t, i] l[i] (cs.getD i undef) := by
        cases hs0 with
        | pers h => cases h with | tup l cs h1 hk => exact ⟨cs, rfl, h1, .pers (hk i hlt)⟩
        | tup l cs h1 hk => exact ⟨cs, rfl, h1, hk i hlt⟩
      obtain ⟨cs, rfl, hcs, hu⟩ := key
      have hg : cs[i]? = some (cs.getD i undef) := by have : i < cs.size := by omega
                                                      simp [this]
      generalize cs.getD i undef = u at hu hg
      have hrun : (execOp a.eval o).run P w = .ok (.value u) w := by
        simp only [execOp, ho, eval_tmp, hvv]
        simp [Instr.extract, hg]
      dsimp only at h
      split at h
      · rename_i hp
        have h' : ws = _ := h
        subst h'
        exact ⟨_, w, Z, β, hrun, hR.put d (hu.toP hp) (isP_plain hp)⟩
      · split at h
        · rename_i ho
          have h' : ws = _ := h
          subst h'
          obtain ⟨β', hR'⟩ := hR.giveP (u := u) (p := [i]) htd (by rw [het]; simp [getP, kids, hlt]) (by rw [het]; simp) (own_plain ho) (by rw [het]; simp) hu
          exact ⟨_, w, Z, β', hrun, hR'⟩
        · exact h.elim
    | _ => simp only [het] at h; exact h.elim
  | _ => exact h.elim

noncomputable def rdFieldV (P : Program) (T d : Nat) (x : Operand) (f : Nat) : Rd := match stO P T f with
  | some off => (match x with
    | .tmp t => .get t fun v => match v with
      | .agg l => rdIdx l off fun A => .need (isP A = true) (.ret [.set d A])
      | .valias s p => .get s fun c => rdGetP c p fun X => match X with
        | .box l => rdIdx l off fun A => .need (isP A = true) (.ret [.set d A])
        | _ => .fail
      | _ => .fail
    | _ => .fail)
  | none => .fail

theorem rdFieldV_sound {P : Program} {κ : Con} {o : Oper} {e : Env} {ws : List Wr} {T d f : Nat} {x : Operand} (ho : o.op = .field T x f) (hd : o.dst = some d) (hn : (κ.lim.1 ≤ d ∧ d < κ.lim.2)) (h : (rdFieldV P T d x f).Wo e ws) : Does P κ o e ws := by
  unfold rdFieldV at h
  split at h
  case h_2 => exact h.elim
  rename_i off hoff
  cases x with
  | tmp t =>
    obtain ⟨hj, h⟩ := h
    obtain ⟨fs, fl, hu, hf, hfo, hs, ha⟩ := stO_spec hoff
    have hrun : ∀ (a : Act) (w : World) (cs : Array Value) (u : Value), vals a t = .agg cs → cs[off]? = some u → (execOp a.eval o).run P w = .ok (.value u) w := by
      intro a w cs u hv hc
      simp only [execOp, ho, eval_tmp, hv]
      simp [Instr.field, run_underlying hu, hf, asAgg, part, run_isAgg_false ha, hfo, hc]
    refine does_value hd hn fun a w Z β hR => ?_
    have fin : ∀ (l : List AV) (A : AV) (p : List Nat) (v : Value), vals a t = v → ORep Z w.heap β p (.agg l) v → l[off]? = some A → isP A = true → ws = [.set d A] → ∃ u w' Z' β', (execOp a.eval o).run P w = .ok (.value u) w' ∧ Rep κ Z' β' (apps ws e) (setV (vals a) d u) w' := by
      intro l A p v hv hl hA hp hws
      subst hws
      obtain ⟨hlt, rfl⟩ := List.getElem?_eq_some_iff.1 hA
      have key : ∃ cs, v = .agg cs ∧ cs.size = l.length ∧ ORep Z w.heap β (p ++ [off]) l[off] (cs.getD off undef) := by
        cases hl with
        | pers h => cases h with | agg l cs h1 hk => exact ⟨cs, rfl, h1, .pers (hk off hlt)⟩
        | agg l cs h1 hk => exact ⟨cs, rfl, h1, hk off hlt⟩
      obtain ⟨cs, rfl, hcs, hu⟩ := key
      have hg : cs[off]? = some (cs.getD off undef) := by have : off < cs.size := by omega
                                                          simp [this]
      exact ⟨_, w, Z, β, hrun a w cs _ hv hg, hR.put d (hu.toP hp) (isP_plain hp)⟩
    cases het : e t with
    | agg l =>
      simp only [het] at h
      obtain ⟨A, hA, hp, h⟩ := h
      exact fin l A [t] _ rfl (hR.slot' het (by simp)) hA hp h
    | valias s p =>
      simp only [het] at h
      obtain ⟨_, X, hl, h⟩ := h
      dsimp only at h
      split at h
      case h_2 => exact h.elim
      rename_i l
      obtain ⟨A, hA, hp, h⟩ := h
      obtain ⟨cs, hv, hr, _⟩ := hR.valiasAt het l hl
      exact fin l A _ _ hv hr hA hp h
    | _ => simp only [het] at h; exact h.elim
  | _ => exact h.elim

end Go.Proofs.Ytehdfifncbokeaa
