/- Words of my own for what a slice in memory reads as, and what a call may leave behind it. -/
import Derived.WalkKit
import Derived.WalkSpells
import Derived.WalkLawsBesides
import Derived.Deep.QuietTactic
import Derived.BigQuiet
import Derived.Lib.Hide
import Derived.Handy
import Derived.Deep.RegionHeld3
import Derived.Maps.AppendAt
import Derived.Deep.AppendLies
import Derived.Deep.Draws
namespace Go.Proofs.Ytefpagijgiggmab
open Go Go.RowKit

/-- A byte as a cell holds it. -/
def bv (c : UInt8) : Value := .int .u8 (c.toNat : Int)
def bvs (l : List UInt8) : List Value := l.map bv
/-- An int as a cell holds it. -/
def iv (n : Int) : Value := .int .i64 n
def ivs (l : List Int) : List Value := l.map iv

theorem bvs_take (l : List UInt8) (k : Nat) : bvs (l.take k) = (bvs l).take k := by simp [bvs, List.map_take]
theorem bvs_drop (l : List UInt8) (k : Nat) : bvs (l.drop k) = (bvs l).drop k := by simp [bvs, List.map_drop]
theorem bvs_length (l : List UInt8) : (bvs l).length = l.length := by simp [bvs]
theorem ivs_length (l : List Int) : (ivs l).length = l.length := by simp [ivs]

/-- From A on the cells hold xs. -/
def Rd (w : World) (A : Option Addr) (xs : List Value) : Prop :=
  ∀ j u, xs[j]? = some u → ∃ b o, A = some ⟨b, o, none⟩ ∧ b < w.heap.size ∧ w.cell? ⟨b, o + j, none⟩ = some u

section
variable {w w' w1 : World} {A : Option Addr} {xs : List Value}
theorem Rd.nil (w : World) (A : Option Addr) : Rd w A [] := fun j u h => by simp at h
theorem Rd.keep (h : Rd w A xs) (hs : w.heap.size ≤ w'.heap.size) (hk : ∀ p : Addr, p.block < w.heap.size → w'.cell? p = w.cell? p) : Rd w' A xs := fun j u hj => by
  obtain ⟨b, o, e, hb, hc⟩ := h j u hj
  exact ⟨b, o, e, Nat.lt_of_lt_of_le hb hs, (hk ⟨b, o + j, none⟩ hb).trans hc⟩
theorem Rd.below (h : Rd w A xs) (hb : Below w.heap.size w w') : Rd w' A xs := h.keep hb.size fun _ hp => hb.cell hp
theorem Rd.at_ (h : Rd w A xs) {k : Nat} {u : Value} (hk : xs[k]? = some u) : ∃ b o, A = some ⟨b, o, none⟩ ∧ b < w.heap.size ∧ w.cell? ⟨b, o + k, none⟩ = some u := h k u hk
/-- A cut at the front. -/
theorem Rd.drop (h : Rd w A xs) (k : Nat) : Rd w (A.map (·.add k)) (xs.drop k) := fun j u hj => by
  rw [List.getElem?_drop] at hj
  obtain ⟨b, o, e, hb, hc⟩ := h _ u hj
  subst e
  refine ⟨b, o + k, ?_, hb, by rw [Nat.add_assoc]; exact hc⟩
  simp only [Option.map_some, Addr.add]
  split <;> simp_all
theorem Rd.drewN (h : Rd w A xs) (n : Nat) : Rd (w.drewN n) A xs := h
theorem Rd.drew (h : Rd w A xs) : Rd w.drew A xs := h
/-- A cut at the front, as the model spells it. -/
theorem Rd.cut (h : Rd w A xs) {k c : Nat} (hc : xs.length ≤ c) : Rd w (if c = k then A else A.map (·.add k)) (xs.drop k) := by
  split
  · rw [List.drop_eq_nil_of_le (by omega)]; exact Rd.nil _ _
  · exact h.drop k
theorem Rd.take (h : Rd w A xs) (k : Nat) : Rd w A (xs.take k) := fun j u hj => by
  have : xs[j]? = some u := by
    rw [List.getElem?_take] at hj
    split at hj
    · exact hj
    · cases hj
  exact h j u this
theorem Rd.of_own {base : Nat} {e : TypeId} {n size c : Nat} (h : w.ownsRow base e size (.slice A n c) n xs) : Rd w A xs := fun j u hj => by
  have hl := h.1
  have hj' : j < xs.length := (List.getElem?_eq_some_iff.1 hj).1
  have hn : 0 < n := by
    rcases Nat.eq_zero_or_pos n with h0 | h0
    · subst h0; simp at hl; subst hl; simp at hj'
    · exact h0
  obtain ⟨g, cap, hv, _, hlt⟩ := h.form hn
  have hA : A = some ⟨g, 0, none⟩ := by injection hv
  subst hA
  have := h.cells (g := g) rfl j u hj
  refine ⟨g, 0, rfl, hlt, ?_⟩
  have e0 : (⟨g, 0, none⟩ : Addr).add j = ⟨g, 0 + j, none⟩ := by
    simp only [Addr.add]; split <;> simp_all
  rw [e0] at this
  exact this
end

/-- A new block reads as what was laid in it. -/
theorem Rd.newF (w : World) (cs : List Value) (t : TypeId) (fr : Nat × Nat) : Rd (w.alloc (.cells cs.toArray t fr)) (some ⟨w.heap.size, 0, none⟩) cs := fun j u hj =>
  ⟨w.heap.size, 0, rfl, by simp, by
    have h : (w.alloc (.cells cs.toArray t fr)).heap[w.heap.size]? = some (.cells cs.toArray t fr) := heap_alloc_new w _
    rw [cell_of_row _ _ _ _ t fr h]
    simpa using hj⟩
theorem Rd.new (w : World) (cs : List Value) (t : TypeId) : Rd (w.alloc (.cells cs.toArray t)) (some ⟨w.heap.size, 0, none⟩) cs := Rd.newF w cs t (0, 0)

/-- What is below what was there stays. -/
theorem bStep {B : Nat} {a b c : World} (h : Below B a b) (hB : B ≤ b.heap.size) (k : Below b.heap.size b c) : Below B a c := h.trans (k.mono hB)
theorem bTr {a b c : World} (h : Below a.heap.size a b) (k : Below b.heap.size b c) : Below a.heap.size a c := h.trans (k.mono h.size)
theorem bDrewN {B : Nat} {a w : World} (h : Below B a w) (n : Nat) : Below B a (w.drewN n) := ⟨h.os, h.tape, h.output, h.size, h.block⟩
/-- The cells and the marks below, as rules for the walk. -/
theorem bCells {W w1 : World} (hb : Below W.heap.size W w1) : (∀ b o, b < W.heap.size → w1.cell? ⟨b, o, none⟩ = W.cell? ⟨b, o, none⟩) ∧ (∀ b o, b < W.heap.size → w1.frozen? ⟨b, o, none⟩ = W.frozen? ⟨b, o, none⟩) :=
  ⟨fun b o h => hb.cell (p := ⟨b, o, none⟩) h, fun b o h => hb.frozen (p := ⟨b, o, none⟩) h⟩

/-- Bytes as a string. -/
def bstr (l : List UInt8) : ByteArray := ⟨l.toArray⟩
theorem bvs_at {l : List UInt8} {i : Nat} (hi : i < l.length) : (bvs l)[i]? = some (bv l[i]) := by
  unfold bvs
  rw [List.getElem?_map, List.getElem?_eq_getElem hi]
  rfl
theorem run_str {P : Program} {w : World} {A : Option Addr} {l : List UInt8} (hA : Rd w A (bvs l)) (c : Nat) (src e : TypeId) (hs : P.underlying src = some (.slice e)) (he : P.underlying e = some (.int .u8)) :
    ∀ dst, P.underlying dst = some .string → (convert src dst (.slice A l.length c)).run P w = .ok (.string (bstr l)) w := by
  intro dst hd
  rcases Nat.eq_zero_or_pos l.length with h0 | h0
  · obtain rfl : l = [] := List.eq_nil_of_length_eq_zero h0
    rw [run_convert_bytes_string w src dst e _ _ c hs he hd]
    cases A with
    | none => simp [Conv.bytesToString]; rfl
    | some a =>
      exact run_bytesToString (P := P) w a 0 c [] (by simp [loadCells, loadCellsFrom])
  · obtain ⟨b, o, rfl, hb, _⟩ := hA 0 (bv l[0]) (bvs_at h0)
    have hc : ∀ i, i < l.length → w.cell? ⟨b, o + i, none⟩ = some (.int .u8 ((l.map fun c => (c.toNat : Int)).getD i 0)) := fun i hi => by
      obtain ⟨b', o', e, _, hc⟩ := hA i (bv l[i]) (bvs_at hi)
      injection e with e
      injection e with e1 e2
      subst e1; subst e2
      rw [hc]
      simp [bv, hi]
    have := run_convert_bytes_arg (P := P) w src e hs he b o l.length c (l.map fun c => (c.toNat : Int)) (by simp) hc dst hd
    rw [this]
    congr 2
    simp [strOfNums, bstr, Function.comp_def]
theorem bstr_toList (l : List UInt8) : (bstr l).data.toList = l := rfl
theorem bstr_inj {l m : List UInt8} : bstr l = bstr m ↔ l = m := ⟨fun h => by have := congrArg (fun b => b.data.toList) h; simpa [bstr] using this, fun h => by rw [h]⟩
theorem bstr_size (l : List UInt8) : (bstr l).size = l.length := by simp [bstr, ByteArray.size]

theorem bstr_beq (l m : List UInt8) : ((bstr l).toList == (bstr m).toList) = decide (l = m) := by
  rw [ByteArray.toList_eq, ByteArray.toList_eq]
  show (l == m) = _
  by_cases h : l = m <;> simp [h]

theorem Rd.none_nil {w : World} {xs : List Value} (h : Rd w none xs) : xs = [] := by
  cases xs with
  | nil => rfl
  | cons x xs => obtain ⟨b, o, e, _⟩ := h 0 x rfl; cases e
theorem Rd.none_bytes {w : World} {l : List UInt8} (h : Rd w none (bvs l)) : l = [] := by
  have := congrArg List.length h.none_nil
  rw [bvs_length] at this
  exact List.eq_nil_of_length_eq_zero this

/-- A slice of bytes, as a value. -/
def IsB (w : World) (v : Value) (l : List UInt8) : Prop := ∃ A c, v = .slice A l.length c ∧ (l.length ≤ 1099511627776 ∧ l.length ≤ c ∧ c ≤ maxLen) ∧ Rd w A (bvs l)
theorem IsB.below {w w' : World} {v : Value} {l : List UInt8} (h : IsB w v l) (hb : Below w.heap.size w w') : IsB w' v l := by
  obtain ⟨A, c, e, hl, hr⟩ := h
  exact ⟨A, c, e, hl, hr.below hb⟩
theorem IsB.of_own {w : World} {base : Nat} {e : TypeId} {v : Value} {l : List UInt8} (h : w.ownsRow base e 1 v l.length (bvs l)) (hl : l.length ≤ 1099511627776) : IsB w v l := by
  have h2 := h.2
  rcases h2 with ⟨rfl, h0⟩ | ⟨g, cap, cur, rfl, _, _, hnc, hcm, _⟩
  · obtain rfl : l = [] := List.eq_nil_of_length_eq_zero h0
    exact ⟨none, 0, rfl, by simp, Rd.nil _ _⟩
  · exact ⟨_, cap, rfl, ⟨hl, hnc, hcm⟩, Rd.of_own h⟩
/-- Rows of bytes. -/
def IsRows (w : World) (A : Option Addr) (ls : List (List UInt8)) : Prop :=
  ∃ vs : List Value, vs.length = ls.length ∧ Rd w A vs ∧ ∀ (i : Nat) (v : Value) (l : List UInt8), vs[i]? = some v → ls[i]? = some l → IsB w v l
theorem IsRows.below {w w' : World} {A : Option Addr} {ls : List (List UInt8)} (h : IsRows w A ls) (hb : Below w.heap.size w w') : IsRows w' A ls := by
  obtain ⟨vs, hl, hr, hi⟩ := h
  exact ⟨vs, hl, hr.below hb, fun i v l h1 h2 => (hi i v l h1 h2).below hb⟩
theorem IsRows.at_ {w : World} {A : Option Addr} {ls : List (List UInt8)} (h : IsRows w A ls) {k : Nat} (hk : k < ls.length) :
    ∃ b o A' c l, A = some ⟨b, o, none⟩ ∧ b < w.heap.size ∧ w.cell? ⟨b, o + k, none⟩ = some (.slice A' (List.length l) c) ∧ (l.length ≤ 1099511627776 ∧ l.length ≤ c ∧ c ≤ maxLen) ∧ Rd w A' (bvs l) ∧ ls[k]? = some l := by
  obtain ⟨vs, hl, hr, hi⟩ := h
  have hv : vs[k]? = some (vs[k]'(by omega)) := List.getElem?_eq_getElem (by omega)
  obtain ⟨b, o, e, hb, hc⟩ := hr k _ hv
  obtain ⟨A', c, e', hl', hr'⟩ := hi k _ ls[k] hv (List.getElem?_eq_getElem hk)
  exact ⟨b, o, A', c, ls[k], e, hb, by rw [hc, e'], hl', hr', List.getElem?_eq_getElem hk⟩

theorem ret_int {k : IntKind} {a b : Int} (h : a = b) : Ending.returned (.int k a) = .returned (.int k b) := by rw [h]
theorem ret_bool {a b : Bool} (h : a = b) : Ending.returned (.bool a) = .returned (.bool b) := by rw [h]

end Go.Proofs.Ytefpagijgiggmab
