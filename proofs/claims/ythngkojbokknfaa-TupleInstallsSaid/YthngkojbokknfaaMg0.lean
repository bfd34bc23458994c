/- Texts of one claim put together: what its walks share. -/
import Derived.WalkKit
import Derived.WalkSpells
import Derived.WalkLawsBesides
import Derived.Deep.QuietTactic
import Derived.BigQuiet
import Derived.Lib.Hide
import Derived.Handy
import Derived.Deep.RegionHeld3
import Derived.Maps.AppendAt
import Derived.Deep.AppendLies
import Derived.Deep.Draws
import Derived.ProofKit
import Derived.OpenShut
import Derived.LaidLaws
import Derived.LaidHandle
import Derived.LaidOnce
import Derived.LaidMore
import Derived.Lib.LaidTab
import Derived.Test.YthngkojbokknfaaRows
import Derived.RangeFuncNested
import Derived.RangeFuncBound
import Derived.RangeFuncCalls
import Derived.RangeFuncLeaves
import Derived.OwnWalkIn
import Derived.TacticsInMore
import Derived.LoopNIn
import Derived.LoopIn
import Derived.Shelf.Abstract
import Derived.ScopeJumps
import Derived.MapKept
import Derived.OrdersHeld
import Derived.Deep.DeepCutAuto
import Derived.RegionTactic
import Derived.OwnWalk
import Derived.Deep.MidRow
import Derived.IntWalk
/- Words of my own for what a slice in memory reads as, and what a call may leave behind it. -/
namespace Go.Proofs.Ythngkojbokknfaa
open Go Go.RowKit

/-- A byte as a cell holds it. -/
def bv (c : UInt8) : Value := .int .u8 (c.toNat : Int)
def bvs (l : List UInt8) : List Value := l.map bv
/-- An int as a cell holds it. -/
def iv (n : Int) : Value := .int .i64 n
def ivs (l : List Int) : List Value := l.map iv

theorem bvs_take (l : List UInt8) (k : Nat) : bvs (l.take k) = (bvs l).take k := by simp [bvs, List.map_take]
theorem bvs_drop (l : List UInt8) (k : Nat) : bvs (l.drop k) = (bvs l).drop k := by simp [bvs, List.map_drop]
theorem bvs_length (l : List UInt8) : (bvs l).length = l.length := by simp [bvs]
theorem ivs_length (l : List Int) : (ivs l).length = l.length := by simp [ivs]

/-- From A on the cells hold xs. -/
def Rd (w : World) (A : Option Addr) (xs : List Value) : Prop :=
  ∀ j u, xs[j]? = some u → ∃ b o, A = some ⟨b, o, none⟩ ∧ b < w.heap.size ∧ w.cell? ⟨b, o + j, none⟩ = some u

section
variable {w w' w1 : World} {A : Option Addr} {xs : List Value}
theorem Rd.nil (w : World) (A : Option Addr) : Rd w A [] := fun j u h => by simp at h
theorem Rd.keep (h : Rd w A xs) (hs : w.heap.size ≤ w'.heap.size) (hk : ∀ p : Addr, p.block < w.heap.size → w'.cell? p = w.cell? p) : Rd w' A xs := fun j u hj => by
  obtain ⟨b, o, e, hb, hc⟩ := h j u hj
  exact ⟨b, o, e, Nat.lt_of_lt_of_le hb hs, (hk ⟨b, o + j, none⟩ hb).trans hc⟩
theorem Rd.below (h : Rd w A xs) (hb : Below w.heap.size w w') : Rd w' A xs := h.keep hb.size fun _ hp => hb.cell hp
theorem Rd.at_ (h : Rd w A xs) {k : Nat} {u : Value} (hk : xs[k]? = some u) : ∃ b o, A = some ⟨b, o, none⟩ ∧ b < w.heap.size ∧ w.cell? ⟨b, o + k, none⟩ = some u := h k u hk
/-- A cut at the front. -/
theorem Rd.drop (h : Rd w A xs) (k : Nat) : Rd w (A.map (·.add k)) (xs.drop k) := fun j u hj => by
  rw [List.getElem?_drop] at hj
  obtain ⟨b, o, e, hb, hc⟩ := h _ u hj
  subst e
  refine ⟨b, o + k, ?_, hb, by rw [Nat.add_assoc]; exact hc⟩
  simp only [Option.map_some, Addr.add]
  split <;> simp_all
theorem Rd.drewN (h : Rd w A xs) (n : Nat) : Rd (w.drewN n) A xs := h
theorem Rd.drew (h : Rd w A xs) : Rd w.drew A xs := h
/-- A cut at the front, as the model spells it. -/
theorem Rd.cut (h : Rd w A xs) {k c : Nat} (hc : xs.length ≤ c) : Rd w (if c = k then A else A.map (·.add k)) (xs.drop k) := by
  split
  · rw [List.drop_eq_nil_of_le (by omega)]; exact Rd.nil _ _
  · exact h.drop k
theorem Rd.take (h : Rd w A xs) (k : Nat) : Rd w A (xs.take k) := fun j u hj => by
  have : xs[j]? = some u := by
    rw [List.getElem?_take] at hj
    split at hj
    · exact hj
    · cases hj
  exact h j u this
theorem Rd.of_own {base : Nat} {e : TypeId} {n size c : Nat} (h : w.ownsRow base e size (.slice A n c) n xs) : Rd w A xs := fun j u hj => by
  have hl := h.1
  have hj' : j < xs.length := (List.getElem?_eq_some_iff.1 hj).1
  have hn : 0 < n := by
    rcases Nat.eq_zero_or_pos n with h0 | h0
    · subst h0; simp at hl; subst hl; simp at hj'
    · exact h0
  obtain ⟨g, cap, hv, _, hlt⟩ := h.form hn
  have hA : A = some ⟨g, 0, none⟩ := by injection hv
  subst hA
  have := h.cells (g := g) rfl j u hj
  refine ⟨g, 0, rfl, hlt, ?_⟩
  have e0 : (⟨g, 0, none⟩ : Addr).add j = ⟨g, 0 + j, none⟩ := by
    simp only [Addr.add]; split <;> simp_all
  rw [e0] at this
  exact this
end

/-- A new block reads as what was laid in it. -/
theorem Rd.newF (w : World) (cs : List Value) (t : TypeId) (fr : Nat × Nat) : Rd (w.alloc (.cells cs.toArray t fr)) (some ⟨w.heap.size, 0, none⟩) cs := fun j u hj =>
  ⟨w.heap.size, 0, rfl, by simp, by
    have h : (w.alloc (.cells cs.toArray t fr)).heap[w.heap.size]? = some (.cells cs.toArray t fr) := heap_alloc_new w _
    rw [cell_of_row _ _ _ _ t fr h]
    simpa using hj⟩
theorem Rd.new (w : World) (cs : List Value) (t : TypeId) : Rd (w.alloc (.cells cs.toArray t)) (some ⟨w.heap.size, 0, none⟩) cs := Rd.newF w cs t (0, 0)

/-- What is below what was there stays. -/
theorem bStep {B : Nat} {a b c : World} (h : Below B a b) (hB : B ≤ b.heap.size) (k : Below b.heap.size b c) : Below B a c := h.trans (k.mono hB)
theorem bTr {a b c : World} (h : Below a.heap.size a b) (k : Below b.heap.size b c) : Below a.heap.size a c := h.trans (k.mono h.size)
theorem bDrewN {B : Nat} {a w : World} (h : Below B a w) (n : Nat) : Below B a (w.drewN n) := ⟨h.os, h.tape, h.output, h.size, h.block⟩
/-- The cells and the marks below, as rules for the walk. -/
theorem bCells {W w1 : World} (hb : Below W.heap.size W w1) : (∀ b o, b < W.heap.size → w1.cell? ⟨b, o, none⟩ = W.cell? ⟨b, o, none⟩) ∧ (∀ b o, b < W.heap.size → w1.frozen? ⟨b, o, none⟩ = W.frozen? ⟨b, o, none⟩) :=
  ⟨fun b o h => hb.cell (p := ⟨b, o, none⟩) h, fun b o h => hb.frozen (p := ⟨b, o, none⟩) h⟩

/-- Bytes as a string. -/
def bstr (l : List UInt8) : ByteArray := ⟨l.toArray⟩
theorem bvs_at {l : List UInt8} {i : Nat} (hi : i < l.length) : (bvs l)[i]? = some (bv l[i]) := by
  unfold bvs
  rw [List.getElem?_map, List.getElem?_eq_getElem hi]
  rfl
theorem run_str {P : Program} {w : World} {A : Option Addr} {l : List UInt8} (hA : Rd w A (bvs l)) (c : Nat) (src e : TypeId) (hs : P.underlying src = some (.slice e)) (he : P.underlying e = some (.int .u8)) :
    ∀ dst, P.underlying dst = some .string → (convert src dst (.slice A l.length c)).run P w = .ok (.string (bstr l)) w := by
  intro dst hd
  rcases Nat.eq_zero_or_pos l.length with h0 | h0
  · obtain rfl : l = [] := List.eq_nil_of_length_eq_zero h0
    rw [run_convert_bytes_string w src dst e _ _ c hs he hd]
    cases A with
    | none => simp [Conv.bytesToString]; rfl
    | some a =>
      exact run_bytesToString (P := P) w a 0 c [] (by simp [loadCells, loadCellsFrom])
  · obtain ⟨b, o, rfl, hb, _⟩ := hA 0 (bv l[0]) (bvs_at h0)
    have hc : ∀ i, i < l.length → w.cell? ⟨b, o + i, none⟩ = some (.int .u8 ((l.map fun c => (c.toNat : Int)).getD i 0)) := fun i hi => by
      obtain ⟨b', o', e, _, hc⟩ := hA i (bv l[i]) (bvs_at hi)
      injection e with e
      injection e with e1 e2
      subst e1; subst e2
      rw [hc]
      simp [bv, hi]
    have := run_convert_bytes_arg (P := P) w src e hs he b o l.length c (l.map fun c => (c.toNat : Int)) (by simp) hc dst hd
    rw [this]
    congr 2
    simp [strOfNums, bstr, Function.comp_def]
theorem bstr_toList (l : List UInt8) : (bstr l).data.toList = l := rfl
theorem bstr_inj {l m : List UInt8} : bstr l = bstr m ↔ l = m := ⟨fun h => by have := congrArg (fun b => b.data.toList) h; simpa [bstr] using this, fun h => by rw [h]⟩
theorem bstr_size (l : List UInt8) : (bstr l).size = l.length := by simp [bstr, ByteArray.size]

theorem bstr_beq (l m : List UInt8) : ((bstr l).toList == (bstr m).toList) = decide (l = m) := by
  rw [ByteArray.toList_eq, ByteArray.toList_eq]
  show (l == m) = _
  by_cases h : l = m <;> simp [h]

theorem Rd.none_nil {w : World} {xs : List Value} (h : Rd w none xs) : xs = [] := by
  cases xs with
  | nil => rfl
  | cons x xs => obtain ⟨b, o, e, _⟩ := h 0 x rfl; cases e
theorem Rd.none_bytes {w : World} {l : List UInt8} (h : Rd w none (bvs l)) : l = [] := by
  have := congrArg List.length h.none_nil
  rw [bvs_length] at this
  exact List.eq_nil_of_length_eq_zero this

/-- A slice of bytes, as a value. -/
def IsB (w : World) (v : Value) (l : List UInt8) : Prop := ∃ A c, v = .slice A l.length c ∧ (l.length ≤ 1099511627776 ∧ l.length ≤ c ∧ c ≤ maxLen) ∧ Rd w A (bvs l)
theorem IsB.below {w w' : World} {v : Value} {l : List UInt8} (h : IsB w v l) (hb : Below w.heap.size w w') : IsB w' v l := by
  obtain ⟨A, c, e, hl, hr⟩ := h
  exact ⟨A, c, e, hl, hr.below hb⟩
theorem IsB.of_own {w : World} {base : Nat} {e : TypeId} {v : Value} {l : List UInt8} (h : w.ownsRow base e 1 v l.length (bvs l)) (hl : l.length ≤ 1099511627776) : IsB w v l := by
  have h2 := h.2
  rcases h2 with ⟨rfl, h0⟩ | ⟨g, cap, cur, rfl, _, _, hnc, hcm, _⟩
  · obtain rfl : l = [] := List.eq_nil_of_length_eq_zero h0
    exact ⟨none, 0, rfl, by simp, Rd.nil _ _⟩
  · exact ⟨_, cap, rfl, ⟨hl, hnc, hcm⟩, Rd.of_own h⟩
/-- Rows of bytes. -/
def IsRows (w : World) (A : Option Addr) (ls : List (List UInt8)) : Prop :=
  ∃ vs : List Value, vs.length = ls.length ∧ Rd w A vs ∧ ∀ (i : Nat) (v : Value) (l : List UInt8), vs[i]? = some v → ls[i]? = some l → IsB w v l
theorem IsRows.below {w w' : World} {A : Option Addr} {ls : List (List UInt8)} (h : IsRows w A ls) (hb : Below w.heap.size w w') : IsRows w' A ls := by
  obtain ⟨vs, hl, hr, hi⟩ := h
  exact ⟨vs, hl, hr.below hb, fun i v l h1 h2 => (hi i v l h1 h2).below hb⟩
theorem IsRows.at_ {w : World} {A : Option Addr} {ls : List (List UInt8)} (h : IsRows w A ls) {k : Nat} (hk : k < ls.length) :
    ∃ b o A' c l, A = some ⟨b, o, none⟩ ∧ b < w.heap.size ∧ w.cell? ⟨b, o + k, none⟩ = some (.slice A' (List.length l) c) ∧ (l.length ≤ 1099511627776 ∧ l.length ≤ c ∧ c ≤ maxLen) ∧ Rd w A' (bvs l) ∧ ls[k]? = some l := by
  obtain ⟨vs, hl, hr, hi⟩ := h
  have hv : vs[k]? = some (vs[k]'(by omega)) := List.getElem?_eq_getElem (by omega)
  obtain ⟨b, o, e, hb, hc⟩ := hr k _ hv
  obtain ⟨A', c, e', hl', hr'⟩ := hi k _ ls[k] hv (List.getElem?_eq_getElem hk)
  exact ⟨b, o, A', c, ls[k], e, hb, by rw [hc, e'], hl', hr', List.getElem?_eq_getElem hk⟩

theorem ret_int {k : IntKind} {a b : Int} (h : a = b) : Ending.returned (.int k a) = .returned (.int k b) := by rw [h]
theorem ret_bool {a b : Bool} (h : a = b) : Ending.returned (.bool a) = .returned (.bool b) := by rw [h]

end Go.Proofs.Ythngkojbokknfaa
/- From a law's walk to its row: what every law's door has alike. -/
namespace Go.Proofs.Ythngkojbokknfaa
open Go Go.ChangeShapes Go.WideShapes Go.ChangeAt Go.RowKit

section
variable {H : Type} {enc : TypeId × Value → H} {P : Program}

/-- Arguments read behind the call as they read before, if what was there is as it was. -/
theorem args_stay (hl : laidOutB P = true) {W W' : World} (hb : Below W.heap.size W W') : ∀ {ts : List TypeId} {vs : List Value} {ds : List (DataW H)} {ps : List MemPlace},
    (∀ t ∈ ts, P.readableRec t = true ∧ t < P.types.size) → DataW.TrodAll enc P W 0 (fun _ => true) true ts vs ds ps → (∀ x ∈ ps, x.block < W.heap.size) →
    DataW.TrodAll enc P W' 0 (fun b => decide (b < W.heap.size)) true ts vs ds ps
  | [], vs, ds, ps, _, h, _ => by
    obtain ⟨rfl, rfl, rfl⟩ := trodAll_nil h
    exact trodAll_mk0
  | t :: ts, vs, ds, ps, ht, h, hp => by
    obtain ⟨v0, vs0, d0, ds0, p0, q0, rfl, rfl, rfl, h0, r0⟩ := trodAll_cons h
    exact trodAll_cons_mk (Below.trod hl (ht t (by simp)).1 (ht t (by simp)).2 h0 hb (fun x hx => hp x (by simp [hx])))
      (args_stay hl hb (fun t' h' => ht t' (by simp [h'])) r0 (fun x hx => hp x (by simp [hx])))

/-- A law that came to true and left all that was there alone has met its row. -/
theorem law_met (hl : laidOutB P = true) {f : Func} {s : ChangeSpec} {T : TypeId} (hT : P.underlying T = some .bool) (hrt : f.resultTypes = #[T]) (hts : ∀ t ∈ f.params.toList, P.readableRec t = true ∧ t < P.types.size) (hvars : s.vars = [])
    {apart : Bool} {W W' : World} {args : Array Value} {ds gs : List (DataW H)} {before : List MemPlace} (hW : DataW.Whole enc P f.params.toList s.vars apart W args.toList ds gs before)
    (hres : (s.fn H (ds ++ gs)).results = [.lit (.bool true)]) (hargs : (s.fn H (ds ++ gs)).args = ds) (hvr : (s.fn H (ds ++ gs)).vars = []) (hb : Below W.heap.size W W') :
    s.post enc P f apart true false false W args (.bool true) W' := by
  have hW0 := hW
  obtain ⟨p, q, hA, hV, rfl, _, _⟩ := hW0
  rw [hvars] at hV
  have hgs : gs = [] ∧ q = [] := trodVars_none hV
  obtain ⟨rfl, rfl⟩ := hgs
  refine ⟨ds, [], _, [], p, [], hW, ?_, ?_, ?_, hb.frame _, fun h => by cases h⟩
  · rw [hres, hrt]
    exact trodAll_mk1 (shut_bool hT true)
  · rw [hargs]
    exact args_stay hl hb hts hA (fun x hx => hW.lt x (by simp [hx]))
  · rw [hvr, hvars]
    rfl
end
end Go.Proofs.Ythngkojbokknfaa
/- Arguments opened: a slice of bytes, of integers; an array of bytes. -/
namespace Go.Proofs.Ythngkojbokknfaa
open Go Go.ChangeShapes Go.WideShapes Go.ChangeAt Go.RowKit

section
variable {H : Type} {enc : TypeId × Value → H} {P : Program} {W : World} {base : Nat}

theorem open_bytes_rd {t e : TypeId} (ht : P.underlying t = some (.slice e)) (he : P.underlying e = some (.int .u8)) (hc : P.cellsOf e = 1) {v : Value} {d : DataW H} {p : List MemPlace} (hval : Value.okWide P W .any base t v) (h1 : DataW.Trod enc P W 0 (fun _ => true) true t v d p) :
    ∃ A c, ∃ l : List UInt8, v = .slice A l.length c ∧ l.length ≤ c ∧ c ≤ maxLen ∧ Rd W A (bvs l) := by
  obtain ⟨a1, len, cap, rfl⟩ := okWide_slice ht hval
  obtain ⟨fuel, hf⟩ := h1
  rcases open_ints ht he hc hf with ⟨hcs, hx⟩ | ⟨a, len', cap', zs, hcs, _, hl, hm, hz, hx, hcell, hwz⟩
  · simp [Value.cells] at hcs
    obtain ⟨rfl, rfl, rfl⟩ := hcs
    exact ⟨none, 0, [], rfl, Nat.le_refl _, Nat.zero_le _, Rd.nil _ _⟩
  · simp [Value.cells] at hcs
    obtain ⟨rfl, rfl, rfl⟩ := hcs
    simp only [if_true] at hz
    have hlen : ((zs.take len).map fun n => UInt8.ofNat n.toNat).length = len := by simp; omega
    refine ⟨some a, cap, (zs.take len).map fun n => UInt8.ofNat n.toNat, by rw [hlen], by omega, hm, fun j u hj => ?_⟩
    simp only [bvs, List.map_map, List.getElem?_map, Option.map_eq_some_iff] at hj
    obtain ⟨n, hn, rfl⟩ := hj
    have hjl : j < (zs.take len).length := (List.getElem?_eq_some_iff.1 hn).1
    have hjz : j < zs.length := by simp at hjl; omega
    have hn' : zs[j]? = some n := by
      rw [List.getElem?_take] at hn
      split at hn
      · exact hn
      · cases hn
    obtain ⟨ab, ao, spot⟩ := a
    have hspot : spot = none := by simpa [Addr.add] using World.cell?_spot (hcell 0 (by omega))
    subst hspot
    have hcj := hcell j hjz
    rw [Addr.add_lit] at hcj
    have hb := range_u8 hwz j
    rw [List.getD_eq_getElem?_getD, hn'] at hcj
    rw [hn'] at hb
    simp only [Option.getD_some] at hcj hb
    refine ⟨ab, ao, rfl, World.block_lt_of_cell? W _ hcj, ?_⟩
    rw [hcj]
    simp only [Function.comp, bv, UInt8.toNat_ofNat']
    congr 2
    omega

theorem one_u8 {e : TypeId} (he : P.underlying e = some (.int .u8)) {b0 : Nat} {sp : Nat → Bool} {held : Bool} {fuel : Nat} {v : Value} {y : DataW H × List MemPlace} (h : DataW.trod enc P W b0 sp held fuel e [v] = some y) : ∃ c : UInt8, v = bv c := by
  obtain ⟨n, h1, _, hw⟩ := DataW.trod_int he h
  injection h1 with h1 _
  subst h1
  have hb := bounds_u8 hw
  refine ⟨UInt8.ofNat n.toNat, ?_⟩
  simp only [bv, UInt8.toNat_ofNat']
  congr 1
  omega
theorem open_arr4 {t e : TypeId} (ht : P.underlying t = some (.array 4 e)) (he : P.underlying e = some (.int .u8)) (hc : P.cellsOf e = 1) (hct : P.cellsOf t = 4) {v : Value} {d : DataW H} {p : List MemPlace} (hval : Value.okWide P W .any base t v) (h1 : DataW.Trod enc P W 0 (fun _ => true) true t v d p) :
    ∃ x y z u : UInt8, v = .agg #[bv x, bv y, bv z, bv u] := by
  simp only [Value.okWide, ht] at hval
  obtain ⟨cs, rfl, hsz, _⟩ := hval
  obtain ⟨fuel, hf⟩ := h1
  obtain ⟨xs, m, _, _, _, hxl, hx⟩ := DataW.trod_array ht hf
  rw [hct] at hsz
  simp only [Value.cells, hc, Nat.mul_one] at hx
  obtain ⟨l⟩ := cs
  match l, hsz with
  | [a, b, c, d], _ =>
    have g : ∀ i, i < 4 → ∃ y, xs[i]? = some y := fun i hi => ⟨xs[i]'(by omega), List.getElem?_eq_getElem (by omega)⟩
    obtain ⟨_, g0⟩ := g 0 (by omega)
    obtain ⟨_, g1⟩ := g 1 (by omega)
    obtain ⟨_, g2⟩ := g 2 (by omega)
    obtain ⟨_, g3⟩ := g 3 (by omega)
    obtain ⟨x, rfl⟩ := one_u8 he ((hx 0 (by omega)).trans g0)
    obtain ⟨y, rfl⟩ := one_u8 he ((hx 1 (by omega)).trans g1)
    obtain ⟨z, rfl⟩ := one_u8 he ((hx 2 (by omega)).trans g2)
    obtain ⟨u, rfl⟩ := one_u8 he ((hx 3 (by omega)).trans g3)
    exact ⟨x, y, z, u, rfl⟩
end
end Go.Proofs.Ythngkojbokknfaa
/- Arguments opened: a row of ints. -/
namespace Go.Proofs.Ythngkojbokknfaa
open Go Go.ChangeShapes Go.WideShapes Go.ChangeAt Go.RowKit

/-- Numbers that an int can be. -/
def I64 (n : Int) : Prop := -9223372036854775808 ≤ n ∧ n ≤ 9223372036854775807
section
variable {H : Type} {enc : TypeId × Value → H} {W : World} {base0 : Nat} {sp : Nat → Bool} {held : Bool} {base : Nat}
theorem open_ints_rd {v : Value} {d : DataW H} {p : List MemPlace} (hval : Value.okWide Try.prog W .any base 74 v) (h1 : DataW.Trod enc Try.prog W base0 (fun _ => true) held 74 v d p) :
    ∃ A c, ∃ l : List Int, v = .slice A l.length c ∧ l.length ≤ c ∧ c ≤ maxLen ∧ Rd W A (ivs l) ∧ ∀ n ∈ l, I64 n := by
  obtain ⟨a1, len, cap, rfl⟩ := okWide_slice Try.underlying74 hval
  obtain ⟨fuel, hf⟩ := h1
  rcases open_ints Try.underlying74 Try.underlying3 (by kernel_rfl) hf with ⟨hcs, hx⟩ | ⟨a, len', cap', zs, hcs, _, hl, hm, hz, hx, hcell, hwz⟩
  · simp [Value.cells] at hcs
    obtain ⟨rfl, rfl, rfl⟩ := hcs
    exact ⟨none, 0, [], rfl, Nat.le_refl _, Nat.zero_le _, Rd.nil _ _, by simp⟩
  · simp [Value.cells] at hcs
    obtain ⟨rfl, rfl, rfl⟩ := hcs
    simp only [if_true] at hz
    have hlen : (zs.take len).length = len := by simp; omega
    refine ⟨some a, cap, zs.take len, by rw [hlen], by omega, hm, fun j u hj => ?_, fun n hn => bounds_i64 (hwz n (List.mem_of_mem_take hn))⟩
    simp only [ivs, List.getElem?_map, Option.map_eq_some_iff] at hj
    obtain ⟨n, hn, rfl⟩ := hj
    have hjl : j < (zs.take len).length := (List.getElem?_eq_some_iff.1 hn).1
    have hjz : j < zs.length := by simp at hjl; omega
    have hn' : zs[j]? = some n := by
      rw [List.getElem?_take] at hn
      split at hn
      · exact hn
      · cases hn
    obtain ⟨ab, ao, spot⟩ := a
    have hspot : spot = none := by simpa [Addr.add] using World.cell?_spot (hcell 0 (by omega))
    subst hspot
    have hcj := hcell j hjz
    rw [Addr.add_lit, List.getD_eq_getElem?_getD, hn'] at hcj
    exact ⟨ab, ao, rfl, World.block_lt_of_cell? W _ hcj, hcj⟩
end
end Go.Proofs.Ythngkojbokknfaa
/- Entries and states, as plain numbers. -/
namespace Go.Proofs.Ythngkojbokknfaa
open Go Go.RowKit

structure En where
  term : Int
  kind : Int
  value : Int
deriving DecidableEq
structure St where
  index : Int
  term : Int
  sum : Int
  level : Int
  final : Bool
deriving DecidableEq
def En.v (e : En) : Value := .agg #[.int .i64 e.term, .int .i64 e.kind, .int .i64 e.value]
def St.v (s : St) : Value := .agg #[.int .i64 s.index, .int .i64 s.term, .int .i64 s.sum, .int .i64 s.level, .bool s.final]
def maxN : Int := 1073741824
def En.ok (e : En) : Prop := I64 e.term ∧ I64 e.kind ∧ I64 e.value
def St.ok (s : St) : Prop := I64 s.index ∧ I64 s.term ∧ I64 s.sum ∧ I64 s.level

def numB (n : Int) : Bool := decide (0 ≤ n ∧ n ≤ 1073741824)
def rightB (e : En) : Bool := decide (0 ≤ e.kind ∧ e.kind ≤ 4 ∧ 0 < e.term ∧ e.term ≤ 1073741824 ∧ 0 ≤ e.value ∧ e.value ≤ 1073741824 ∧ (e.value = 0 ∨ e.kind = 1))
def firstS : St := ⟨0, 0, 0, 1, false⟩
def FineP (s : St) : Prop := s = firstS ∨ (0 < s.index ∧ s.index ≤ 1073741824 ∧ 0 < s.term ∧ s.term ≤ 1073741824 ∧ 0 ≤ s.sum ∧ s.sum ≤ 1073741824 ∧ (s.level = 1 ∨ s.level = 2) ∧ (s.final = true → s.level = 2))
def fineB (s : St) : Bool :=
  decide (s = firstS) || decide (0 < s.index ∧ s.index ≤ 1073741824 ∧ 0 < s.term ∧ s.term ≤ 1073741824 ∧ 0 ≤ s.sum ∧ s.sum ≤ 1073741824 ∧ (s.level = 1 ∨ s.level = 2) ∧ (s.final = true → s.level = 2))
theorem fineB_iff (s : St) : fineB s = true ↔ FineP s := by unfold fineB FineP; simp only [Bool.or_eq_true, decide_eq_true_eq]
def deedS (k v : Int) (s : St) : St :=
  if k = 1 then { s with sum := (31 * s.sum + v + 1) % 1073741824 }
  else if k = 2 then { s with level := 2 }
  else if k = 3 then (if s.final then s else { s with level := 1 })
  else if k = 4 then { s with final := decide (s.level = 2) }
  else s
def nextS (s : St) (e : En) : St :=
  if rightB e = true ∧ fineB s = true ∧ s.index < 1073741824 then deedS e.kind e.value { s with index := s.index + 1, term := e.term } else s
def allS (s : St) (l : List En) : St := l.foldl nextS s

theorem deedS_index (k v : Int) (s : St) : (deedS k v s).index = s.index := by unfold deedS; repeat' split <;> try rfl
theorem deedS_term (k v : Int) (s : St) : (deedS k v s).term = s.term := by unfold deedS; repeat' split <;> try rfl
theorem nextS_fine (s : St) (e : En) (h : FineP s) : FineP (nextS s e) := by
  unfold nextS
  split
  · rename_i hh
    obtain ⟨h1, _, h3⟩ := hh
    unfold rightB at h1
    simp only [decide_eq_true_eq] at h1
    right
    rw [deedS_index, deedS_term]
    have hs : 0 ≤ s.index ∧ 0 ≤ s.sum ∧ s.sum ≤ 1073741824 ∧ (s.level = 1 ∨ s.level = 2) ∧ (s.final = true → s.level = 2) := by
      rcases h with rfl | h
      · simp [firstS]
      · exact ⟨by omega, by omega, by omega, h.2.2.2.2.2.2.1, h.2.2.2.2.2.2.2⟩
    obtain ⟨i0, i1, i2, i3, i4⟩ := hs
    refine ⟨by show 0 < s.index + 1; omega, by show s.index + 1 ≤ _; omega, by show 0 < e.term; omega, by show e.term ≤ _; omega, ?_⟩
    unfold deedS
    repeat' split
    all_goals first | (refine ⟨?_, ?_, ?_, ?_⟩ <;> simp_all <;> omega) | skip
  · exact h
theorem allS_fine (s : St) (l : List En) (h : FineP s) : FineP (allS s l) := by
  induction l generalizing s with
  | nil => exact h
  | cons e l ih => exact ih _ (nextS_fine s e h)
theorem allS_snoc (s : St) (l : List En) (e : En) : allS s (l ++ [e]) = nextS (allS s l) e := by simp [allS]
theorem deedS_ok (k v : Int) (s : St) (h : s.ok) : (deedS k v s).ok := by
  unfold deedS St.ok I64 at *
  repeat' split
  all_goals (refine ⟨?_, ?_, ?_, ?_⟩ <;> simp_all <;> omega)
theorem nextS_ok (s : St) (e : En) (h : s.ok) (he : e.ok) : (nextS s e).ok := by
  unfold nextS
  split
  · rename_i hh
    refine deedS_ok _ _ _ ⟨?_, he.1, h.2.2.1, h.2.2.2⟩
    have := h.1
    unfold I64 at *
    constructor <;> show _ ≤ _ <;> simp <;> omega
  · exact h
end Go.Proofs.Ythngkojbokknfaa
/- A range over a function whose elements are known ahead: one law for the caller, one word for the iterator's contract; no program of its own is spoken of. -/
namespace Go.Proofs.Ythngkojbokknfaa
open Go Go.RowKit

/-- Of the blocks that are there those with S stay as they are. -/
structure KeepB (S : Nat → Prop) (w w' : World) : Prop where
  os : w'.os = w.os
  tape : w'.tape = w.tape
  output : w'.output = w.output
  size : w.heap.size ≤ w'.heap.size
  block : ∀ k, k < w.heap.size → S k → w'.heap[k]? = w.heap[k]?

theorem KeepB.refl (S : Nat → Prop) (w : World) : KeepB S w w := ⟨rfl, rfl, rfl, Nat.le_refl _, fun _ _ _ => rfl⟩
theorem KeepB.trans {S : Nat → Prop} {a b c : World} (h : KeepB S a b) (k : KeepB S b c) : KeepB S a c :=
  ⟨k.os.trans h.os, k.tape.trans h.tape, k.output.trans h.output, Nat.le_trans h.size k.size, fun i hi hs => (k.block i (Nat.lt_of_lt_of_le hi h.size) hs).trans (h.block i hi hs)⟩
theorem KeepB.sub {S T : Nat → Prop} {a b : World} (h : KeepB S a b) (hs : ∀ k, k < a.heap.size → T k → S k) : KeepB T a b :=
  ⟨h.os, h.tape, h.output, h.size, fun k hk ht => h.block k hk (hs k hk ht)⟩
theorem KeepB.drew {S : Nat → Prop} {a b : World} (h : KeepB S a b) : KeepB S a b.drew := ⟨h.os, h.tape, h.output, h.size, h.block⟩
theorem KeepB.drewN {S : Nat → Prop} {a b : World} (h : KeepB S a b) (n : Nat) : KeepB S a (b.drewN n) := ⟨h.os, h.tape, h.output, h.size, h.block⟩
theorem KeepB.alloc {S : Nat → Prop} {a b : World} (h : KeepB S a b) (o : Obj) : KeepB S a (b.alloc o) :=
  h.trans ⟨rfl, rfl, rfl, by simp, fun k hk _ => Below.heap_alloc _ _ _ hk⟩
theorem KeepB.setCell {S : Nat → Prop} {a b : World} (h : KeepB S a b) {p : Addr} (hp : p.block < a.heap.size → ¬ S p.block) (u : Value) : KeepB S a (b.setCell p u) :=
  ⟨h.os, h.tape, h.output, by simpa [World.setCell] using h.size, fun k hk hs => (Below.heap_setCell b p u k (fun e => by subst e; exact hp hk hs)).trans (h.block k hk hs)⟩
theorem KeepB.grown {S : Nat → Prop} {a b c : World} {row : Option Nat} (h : KeepB S a b) (hg : b.grownBy c row) (hr : ∀ k, row = some k → k < a.heap.size → ¬ S k) : KeepB S a c :=
  ⟨hg.os.trans h.os, hg.tape.trans h.tape, hg.output.trans h.output, Nat.le_trans h.size hg.size, fun k hk hs =>
    (hg.block k (Nat.lt_of_lt_of_le hk h.size) (fun e => hr k e.symm hk hs)).trans (h.block k hk hs)⟩
theorem KeepB.of_below {S : Nat → Prop} {B : Nat} {a b : World} (h : Below B a b) (hs : ∀ k, k < a.heap.size → S k → k < B) : KeepB S a b :=
  ⟨h.os, h.tape, h.output, h.size, fun k hk ht => h.block k (hs k hk ht)⟩
theorem KeepB.below {S : Nat → Prop} {a b c : World} (h : KeepB S a b) (k : Below b.heap.size b c) : KeepB S a c :=
  h.trans (KeepB.of_below k (fun _ hk _ => hk))
theorem KeepB.to_below {S : Nat → Prop} {B : Nat} {a b : World} (h : KeepB S a b) (hB : B ≤ a.heap.size) (hs : ∀ k, k < B → S k) : Below B a b :=
  ⟨h.os, h.tape, h.output, h.size, fun k hk => h.block k (Nat.lt_of_lt_of_le hk hB) (hs k hk)⟩
theorem KeepB.putObj {S : Nat → Prop} {a b : World} (h : KeepB S a b) (l : Nat) (o : Obj) (hl : l < a.heap.size → ¬ S l) : KeepB S a (b.putObj l o) :=
  ⟨h.os, h.tape, h.output, by simpa [World.putObj] using h.size, fun k hk hs => (World.putObj_heap_other (by rintro rfl; exact hl hk hs)).trans (h.block k hk hs)⟩
theorem KeepB.cell {S : Nat → Prop} {a b : World} (h : KeepB S a b) {p : Addr} {u : Value} (hs : S p.block) (hc : a.cell? p = some u) : b.cell? p = some u := by
  have hb : p.block < a.heap.size := World.block_lt_of_cell? a p hc
  exact (World.cell?_of_block (h.block _ hb hs)).trans hc
theorem KeepB.frozen {S : Nat → Prop} {a b : World} (h : KeepB S a b) {p : Addr} (hb : p.block < a.heap.size) (hs : S p.block) : b.frozen? p = a.frozen? p :=
  World.frozen?_of_block (h.block _ hb hs)
theorem KeepB.heap {S : Nat → Prop} {a b : World} (h : KeepB S a b) {k : Nat} {o : Obj} (hs : S k) (ho : a.heap[k]? = some o) : b.heap[k]? = some o :=
  (h.block k (Array.getElem?_eq_some_iff.1 ho).1 hs).trans ho
theorem KeepB.rd {S : Nat → Prop} {a b : World} (h : KeepB S a b) {A : Option Addr} {xs : List Value} (hr : Rd a A xs) (hs : ∀ p, A = some p → S p.block) : Rd b A xs := fun j u hj => by
  obtain ⟨g, o, rfl, hb, hc⟩ := hr j u hj
  exact ⟨g, o, rfl, Nat.lt_of_lt_of_le hb h.size, h.cell (p := ⟨g, o + j, none⟩) (hs ⟨g, o, none⟩ rfl) hc⟩

/-- A variable that lies in a block of its own. -/
def Box (W : World) (b : Nat) (v : Value) : Prop := W.cell? ⟨b, 0, none⟩ = some v ∧ W.frozen? ⟨b, 0, none⟩ = false
theorem Box.lt {W : World} {b : Nat} {v : Value} (h : Box W b v) : b < W.heap.size := World.block_lt_of_cell? W ⟨b, 0, none⟩ h.1
theorem Box.keep {S : Nat → Prop} {W W' : World} {b : Nat} {v : Value} (h : Box W b v) (hk : KeepB S W W') (hs : S b) : Box W' b v :=
  ⟨hk.cell (p := ⟨b, 0, none⟩) hs h.1, (hk.frozen (p := ⟨b, 0, none⟩) h.lt hs).trans h.2⟩
theorem Box.below {B : Nat} {W W' : World} {b : Nat} {v : Value} (h : Box W b v) (hk : Below B W W') (hs : b < B) : Box W' b v :=
  ⟨(hk.cell (p := ⟨b, 0, none⟩) hs).trans h.1, (hk.frozen (p := ⟨b, 0, none⟩) hs).trans h.2⟩
theorem Box.new (W : World) (v : Value) (t : TypeId) : Box (W.alloc (.cells #[v] t)) W.heap.size v := ⟨by simp, by simp⟩
theorem Box.alloc {W : World} {b : Nat} {v : Value} (h : Box W b v) (o : Obj) : Box (W.alloc o) b v := h.keep ((KeepB.refl (fun _ => True) W).alloc o) trivial
theorem Box.drew {W : World} {b : Nat} {v : Value} (h : Box W b v) : Box W.drew b v := h
theorem Box.set {W : World} {b : Nat} {v : Value} (h : Box W b v) (u : Value) : Box (W.setCell ⟨b, 0, none⟩ u) b u :=
  ⟨World.cell?_setCell_same' _ _ _ (by rw [h.1]; rfl), by rw [World.frozen?_setCell]; exact h.2⟩
theorem Box.other {W : World} {b : Nat} {v : Value} (h : Box W b v) {p : Addr} (hp : p.block ≠ b) (u : Value) : Box (W.setCell p u) b v :=
  h.keep ((KeepB.refl (fun k => k ≠ p.block) W).setCell (fun _ => by simp) u) (fun e => hp e.symm)
theorem below_keep {S : Nat → Prop} {B : Nat} {a b c : World} (h : Below B a b) (hk : KeepB S b c) (hB : B ≤ b.heap.size) (hs : ∀ k, k < B → S k) : Below B a c :=
  h.trans (hk.to_below hB hs)

/-- AN ITERATOR'S CONTRACT: from world w on, called with any yield, it hands over xs, one by one, till a round says no. It reads what lies below n₀ and its own blocks (from M to w's end), which a round leaves as they are; it writes only its own and new ones. -/
def Iter {α : Type} (P : Program) (g : Nat) (lb : Array Value) (encs : α → Array Value) (xs : List α) (n₀ M : Nat) (w : World) : Prop :=
  ∀ (l : Nat) (J : Nat → World → Prop) (Jx : World → Prop) (W : World),
    Below w.heap.size w W →
    (∀ k A B, J k A → KeepB (fun b => b < M ∨ w.heap.size ≤ b) A B → J k B) →
    (∀ A B, Jx A → KeepB (fun b => b < M ∨ w.heap.size ≤ b) A B → Jx B) →
    (∀ k x A, xs[k]? = some x → J k A → w.heap.size ≤ A.heap.size → YieldAt Fence.wide 8 P l (encs x) A fun e B =>
      (e = .returned (.bool true) ∧ J (k + 1) B ∧ KeepB (fun b => b < n₀ ∨ (M ≤ b ∧ b < w.heap.size)) A B) ∨
      (e = .returned (.bool false) ∧ Jx B ∧ KeepB (fun b => b < n₀ ∨ (M ≤ b ∧ b < w.heap.size)) A B)) →
    J 0 W → CallsIn Fence.wide 9 P g (#[.func (.yield l) #[] #[]] ++ lb) W fun e B => (∃ v, e = .returned v) ∧ (J xs.length B ∨ Jx B)

/-- How a round's body may be left. -/
def roundEnd (S : Nat → Prop) (I' : World → Prop) (Ix : Code → World → Prop) (A : World) : Exit → Act → World → Prop
  | .normal, _, B => KeepB S A B ∧ I' B
  | .ret, _, B => KeepB S A B ∧ Ix .ret B
  | .exit id, _, B => KeepB S A B ∧ Ix (.exit id) B
  | .goto t, _, B => KeepB S A B ∧ Ix (.goto t) B
  | .panic _, _, _ => False
  | .outgrown, _, _ => False

variable {P : Program}

set_option maxHeartbeats 1000000 in
theorem range_law {α : Type} {g : Operand} {ps : Array Tmp} {assign body : Code} {Q : Exit → Act → World → Prop} {a : Act} {w : World}
    {gf : Nat} {lb : Array Value} (hg : a.eval g = .func (.func gf) #[] lb) (eg : ∀ args w, (callFunc gf args).run P w = .ok (.enter gf args) w)
    {encs : α → Array Value} {xs : List α} {n₀ M : Nat} (hit : Iter P gf lb encs xs n₀ M w) (hnM : n₀ ≤ M) (hM : M ≤ w.heap.size) (hps : ∀ x, (encs x).size = ps.size)
    (I : Nat → World → Prop) (Ix : Code → World → Prop)
    (hI : ∀ k A B, I k A → KeepB (fun b => b < M ∨ w.heap.size + 2 ≤ b) A B → I k B)
    (hIx : ∀ c A B, Ix c A → KeepB (fun b => b < M ∨ w.heap.size + 2 ≤ b) A B → Ix c B)
    (h0 : I 0 w)
    (hround : ∀ l k x A, xs[k]? = some x → I k A → w.heap.size + 2 ≤ A.heap.size →
      assign.wpIn (Fence.wide.inRound l) 8 P (Exit.then (fun a1 A1 => KeepB (fun _ => True) A A1 ∧
        ∀ A2, KeepB (fun b => b < w.heap.size ∨ w.heap.size + 2 ≤ b) A1 A2 → I k A2 →
          body.wpIn (Fence.wide.inRound l) 8 P (roundEnd (fun b => b < n₀ ∨ (M ≤ b ∧ b < w.heap.size + 2)) (I (k + 1)) Ix A2) a1 A2) (fun _ _ _ => False))
        { tmps := (ps.zip (encs x)).foldl (fun t (p, v) => t.setIfInBounds p v) a.tmps, defers := [] } A)
    (hdone : ∀ A, I xs.length A → A.heap[w.heap.size]? = some (.deferred (some [])) → Q .normal { a with defers := { target := .collected w.heap.size, args := #[] } :: a.defers } A)
    (hstop : ∀ c A, Ix c A → A.heap[w.heap.size]? = some (.deferred (some [])) → c.wpIn Fence.wide 9 P Q { a with defers := { target := .collected w.heap.size, args := #[] } :: a.defers } A) :
    (Code.rangeFunc g ps assign body).wpIn Fence.wide 9 P Q a w := by
  refine wpIn_rangeFunc ?_
  intro fn hfn
  obtain ⟨rec, hrec⟩ : ∃ rec : LoopState → Option Code → Loop, rec = fun st pe => { state := st, pending := pe, fn, tmps := a.tmps, params := ps, assign, body, defers := w.heap.size } := ⟨_, rfl⟩
  obtain ⟨W1, hW1⟩ : ∃ W1, (w.alloc (.deferred (some []))).alloc (.loop (rec .ready none)) = W1 := ⟨_, rfl⟩
  have hL1 : W1.heap[w.heap.size + 1]? = some (.loop (rec .ready none)) := by
    rw [← hW1]; have := World.alloc_heap_new (w.alloc (.deferred (some []))) (.loop (rec .ready none)); rwa [World.size_alloc] at this
  have hK1 : W1.heap[w.heap.size]? = some (.deferred (some [])) := by
    rw [← hW1]; exact (Below.heap_alloc _ _ _ (by simp)).trans (World.alloc_heap_new w _)
  have hs1 : W1.heap.size = w.heap.size + 2 := by rw [← hW1]; simp
  have hkw : ∀ S, KeepB S w W1 := fun S => by rw [← hW1]; exact ((KeepB.refl S w).alloc _).alloc _
  have hb1 : Below w.heap.size w W1 := (hkw (fun _ => True)).to_below (Nat.le_refl _) (fun _ _ => trivial)
  have hI1 : I 0 W1 := hI 0 _ _ h0 (hkw _)
  refine ⟨w.heap.size + 1, [{ target := .collected w.heap.size, args := #[] }], W1, { target := .fn (.func gf) lb, args := #[.func (.yield (w.heap.size + 1)) #[] #[]] }, W1, gf,
    #[.func (.yield (w.heap.size + 1)) #[] #[]] ++ lb, W1, ?_, ?_, ?_, ?_, (fun h => by cases h), ?_⟩
  · rw [← hW1, hrec]; exact run_enterLoop_outer _ _ _ _ _
  · simp only [resolve, hg]
    simp [go_sem]
  · intro f' hf'; simp [Fence.wide]
  · simp [invoke, go_sem, eg]
  · have hit' := hit (w.heap.size + 1)
      (fun k W => I k W ∧ W.heap[w.heap.size + 1]? = some (.loop (rec .ready none)) ∧ W.heap[w.heap.size]? = some (.deferred (some [])))
      (fun W => ∃ c, Ix c W ∧ W.heap[w.heap.size + 1]? = some (.loop (rec .done (some c))) ∧ W.heap[w.heap.size]? = some (.deferred (some [])))
      W1 hb1
      (fun k A B hs hk => ⟨hI k A B hs.1 (hk.sub (fun b _ h => by omega)), hk.heap (by omega) hs.2.1, hk.heap (by omega) hs.2.2⟩)
      (fun A B hs hk => by
        obtain ⟨c, hc, h2, h3⟩ := hs
        exact ⟨c, hIx c A B hc (hk.sub (fun b _ h => by omega)), hk.heap (by omega) h2, hk.heap (by omega) h3⟩)
      ?_ ⟨hI1, hL1, hK1⟩
    · refine (callsIn_wide.2 (callsIn_wide.1 hit')).mono ?_
      rintro e W2 ⟨⟨v, rfl⟩, (⟨hi, hl, hk⟩ | ⟨c, hi, hl, hk⟩)⟩
      · exact ⟨none, _, by have := run_endLoop (P := P) hl (by rw [hrec]; simp); rw [hrec] at this; exact this,
          hdone _ (hI _ _ _ hi ((KeepB.refl _ _).putObj _ _ (by omega))) ((World.putObj_heap_other (by omega)).trans hk)⟩
      · exact ⟨some c, _, by have := run_endLoop (P := P) hl (by rw [hrec]; simp); rw [hrec] at this; exact this,
          hstop c _ (hIx _ _ _ hi ((KeepB.refl _ _).putObj _ _ (by omega))) ((World.putObj_heap_other (by omega)).trans hk)⟩
    · rintro k x W hx ⟨hi, hl, hk⟩ hsz
      have hlt : w.heap.size + 1 < W.heap.size := (Array.getElem?_eq_some_iff.1 hl).1
      have hy := run_yield (P := P) (args := encs x) hl (by rw [hrec]; exact hps x)
      rw [hrec] at hy
      refine ⟨fn, _, assign, body, hy, roundIn_of_wpIn trivial ?_⟩
      refine wpIn_mono (hround (w.heap.size + 1) k x W hx hi (by omega)) ?_
      rintro e a1 A1 hp
      cases e with
      | normal =>
        obtain ⟨hk1, hbody⟩ := hp
        have hl1 : A1.heap[w.heap.size + 1]? = some (.loop (rec .ready none)) := hk1.heap trivial hl
        have hd1 : A1.heap[w.heap.size]? = some (.deferred (some [])) := hk1.heap trivial hk
        have hlt1 : w.heap.size + 1 < A1.heap.size := (Array.getElem?_eq_some_iff.1 hl1).1
        refine ⟨_, run_beginRound hl1 (by rw [hrec]), ?_⟩
        obtain ⟨A2, hA2⟩ : ∃ A2, A1.putObj (w.heap.size + 1) (.loop { rec .ready none with state := .busy }) = A2 := ⟨_, rfl⟩
        rw [hA2]
        have hk2 : KeepB (fun b => b ≠ w.heap.size + 1) A1 A2 := by rw [← hA2]; exact (KeepB.refl _ _).putObj _ _ (by omega)
        have hl2 : A2.heap[w.heap.size + 1]? = some (.loop { rec .ready none with state := .busy }) := by rw [← hA2]; exact World.putObj_heap_same hlt1
        have hd2 : A2.heap[w.heap.size]? = some (.deferred (some [])) := hk2.heap (by omega) hd1
        have hkeep12 : KeepB (fun b => b < n₀ ∨ (M ≤ b ∧ b < w.heap.size)) W A2 := (hk1.sub (fun _ _ _ => trivial)).trans (hk2.sub (fun b _ h => by omega))
        have fin : ∀ (jump : Option Code) (W3 : World), KeepB (fun b => b < n₀ ∨ (M ≤ b ∧ b < w.heap.size + 2)) A2 W3 →
            (Instr.endRound (w.heap.size + 1) jump).run P W3 = .ok (.bool jump.isNone) (W3.putObj (w.heap.size + 1) (.loop (rec (if jump.isNone then .ready else .done) jump))) ∧
            (W3.putObj (w.heap.size + 1) (.loop (rec (if jump.isNone then .ready else .done) jump))).heap[w.heap.size + 1]? = some (.loop (rec (if jump.isNone then .ready else .done) jump)) ∧
            (W3.putObj (w.heap.size + 1) (.loop (rec (if jump.isNone then .ready else .done) jump))).heap[w.heap.size]? = some (.deferred (some [])) ∧
            KeepB (fun b => b < n₀ ∨ (M ≤ b ∧ b < w.heap.size)) W (W3.putObj (w.heap.size + 1) (.loop (rec (if jump.isNone then .ready else .done) jump))) := fun jump W3 hk3 => by
          have hl3 := hk3.heap (by omega) hl2
          have := run_endRound (P := P) jump hl3
          rw [hrec] at this ⊢
          refine ⟨this, World.putObj_heap_same (Array.getElem?_eq_some_iff.1 hl3).1, (World.putObj_heap_other (by omega)).trans (hk3.heap (by omega) hd2), ?_⟩
          exact (hkeep12.trans (hk3.sub (fun b _ h => by omega))).putObj _ _ (by omega)
        have hiA2 : I k A2 := hI k A1 A2 (hI k W A1 hi (hk1.sub (fun _ _ _ => trivial))) (hk2.sub (fun b _ h => by omega))
        refine wpIn_mono (hbody A2 (hk2.sub (fun b _ h => by omega)) hiA2) ?_
        have hst : ∀ (jump : Option Code) (W3 : World), KeepB (fun b => b < M ∨ w.heap.size + 2 ≤ b) W3 (W3.putObj (w.heap.size + 1) (.loop (rec (if jump.isNone then .ready else .done) jump))) := fun jump W3 => (KeepB.refl _ _).putObj _ _ (by omega)
        rintro e a3 W3 hp
        cases e with
        | normal =>
          obtain ⟨hk3, hi3⟩ := hp
          obtain ⟨hr, hl4, hk4, hk5⟩ := fin none W3 hk3
          exact ⟨_, _, hr, .inl ⟨rfl, ⟨hI _ _ _ hi3 (hst none W3), hl4, hk4⟩, hk5⟩⟩
        | ret =>
          obtain ⟨hk3, hi3⟩ := hp
          obtain ⟨hr, hl4, hk4, hk5⟩ := fin (some .ret) W3 hk3
          exact ⟨_, _, hr, .inr ⟨rfl, ⟨.ret, hIx _ _ _ hi3 (hst _ W3), hl4, hk4⟩, hk5⟩⟩
        | exit id =>
          obtain ⟨hk3, hi3⟩ := hp
          obtain ⟨hr, hl4, hk4, hk5⟩ := fin (some (.exit id)) W3 hk3
          exact ⟨_, _, hr, .inr ⟨rfl, ⟨.exit id, hIx _ _ _ hi3 (hst _ W3), hl4, hk4⟩, hk5⟩⟩
        | goto t =>
          obtain ⟨hk3, hi3⟩ := hp
          obtain ⟨hr, hl4, hk4, hk5⟩ := fin (some (.goto t)) W3 hk3
          exact ⟨_, _, hr, .inr ⟨rfl, ⟨.goto t, hIx _ _ _ hi3 (hst _ W3), hl4, hk4⟩, hk5⟩⟩
        | panic ch => exact hp.elim
        | outgrown => exact hp.elim
      | _ => exact hp.elim

/-- A scope with one label: what holds at each jump, and a measure. -/
theorem scope_goto {c X : Code} {Q : Exit → Act → World → Prop} {a : Act} {w : World} (l : Nat) (J : Act → World → Prop) (μ : Act → World → Nat) (hf : findLabel c l = some (.seq .skip X))
    (pass : ∀ a w, J a w → X.wpIn Fence.wide 9 P (Exit.jump l (fun a' w' => J a' w' ∧ μ a' w' < μ a w) Q) a w)
    (first : (∀ a w, J a w → X.wpIn Fence.wide 9 P (Exit.jump l J Q) a w) → c.wpIn Fence.wide 9 P (Exit.jump l J Q) a w) : (Code.scope c).wpIn Fence.wide 9 P Q a w := by
  have hX : ∀ a w, J a w → X.wpIn Fence.wide 9 P (Exit.jump l J Q) a w := fun a w hJ =>
    wpIn_mono (pass a w hJ) (fun e a' w' h => by
      cases e with
      | goto l' => exact ⟨h.1, h.2.1⟩
      | _ => exact h)
  exact wpIn_wide.2 (wp_scope_jumps l J μ hf (wpIn_wide.1 (first hX)) (fun a w hJ => wp_seq (wp_skip (wpIn_wide.1 (pass a w hJ)))))
end Go.Proofs.Ythngkojbokknfaa
/- A map that the call makes out of a literal with int keys, and a look into it. -/
namespace Go.Proofs.Ythngkojbokknfaa
open Go Go.RowKit Go.MapKept

/-- What stands at a key. -/
def mget : List (Int × Value) → Int → Option Value
  | [], _ => none
  | p :: l, k => if p.1 = k then some p.2 else mget l k
/-- Block r is a map with these entries. -/
def MapIs (w : World) (r : Nat) (l : List (Int × Value)) : Prop :=
  ∃ es c, w.heap[r]? = some (.map es c) ∧ es.toList.map (fun e => (e.key, e.val)) = l.map fun p => (.int .i64 p.1, p.2)
theorem MapIs.lt {w : World} {r : Nat} {l : List (Int × Value)} (h : MapIs w r l) : r < w.heap.size := by
  obtain ⟨es, c, h1, _⟩ := h; exact (Array.getElem?_eq_some_iff.1 h1).1
theorem MapIs.keep {S : Nat → Prop} {w w' : World} {r : Nat} {l : List (Int × Value)} (h : MapIs w r l) (hk : KeepB S w w') (hs : S r) : MapIs w' r l := by
  obtain ⟨es, c, h1, h2⟩ := h; exact ⟨es, c, hk.heap hs h1, h2⟩
theorem MapIs.below {B : Nat} {w w' : World} {r : Nat} {l : List (Int × Value)} (h : MapIs w r l) (hb : Below B w w') (hr : r < B) : MapIs w' r l := by
  obtain ⟨es, c, h1, h2⟩ := h; exact ⟨es, c, (hb.block r hr).trans h1, h2⟩
theorem MapIs.made (w : World) : MapIs (w.alloc (.map #[] 0)) w.heap.size [] := ⟨#[], 0, (heap_alloc w _).1, rfl⟩

theorem findNow_mget (k : Int) : ∀ (es : List MapEntry) (l : List (Int × Value)) (i : Nat), es.map (fun e => (e.key, e.val)) = (l.map fun p => (Value.int .i64 p.1, p.2)) →
    ∃ j, Instr.findNow (.int .i64) (.int .i64 k) es i = some ((mget l k).map fun v => (j, v))
  | [], [], i, _ => ⟨i, rfl⟩
  | [], _ :: _, i, h => by simp at h
  | _ :: _, [], i, h => by simp at h
  | e :: es, p :: l, i, h => by
    simp only [List.map_cons, List.cons.injEq, Prod.mk.injEq] at h
    obtain ⟨⟨h1, h2⟩, h3⟩ := h
    by_cases hk : p.1 = k
    · refine ⟨i, ?_⟩
      simp [Instr.findNow, Instr.sameNow, h1, h2, hk, mget]
    · obtain ⟨j, hj⟩ := findNow_mget k es l (i + 1) h3
      refine ⟨j, ?_⟩
      have hk' : (k == p.1) = false := by simpa using fun e => hk e.symm
      simp [Instr.findNow, Instr.sameNow, h1, hk', hk, mget, hj]

section
variable {P : Program} {w : World} {t kt e : TypeId} {r : Nat} {l : List (Int × Value)}
theorem isKey_i64 (k : Int) : IsKey (.int .i64) (.int .i64 k) := rfl

theorem run_lookup_map (ht : P.underlying t = some (.map kt e)) (hk : P.underlying kt = some (.int .i64)) {z : Value} (hz : ∀ w, (zeroValue e).run P w = .ok z w) (h : MapIs w r l) (k : Int) (ok : Bool) :
    (Instr.lookup t (.map (some r)) (.int .i64 k) ok).run P w = .ok (if ok then .tuple #[(mget l k).getD z, .bool (mget l k).isSome] else (mget l k).getD z) w := by
  obtain ⟨es, c, h1, h2⟩ := h
  obtain ⟨j, hj⟩ := findNow_mget k es.toList l 0 h2
  simp only [Instr.lookup, Sem.run_bind, run_underlying ht, Result.andThen_ok, MapKept.run_getObj_map h1, Sem.run_pure, run_checkKey hk (isKey_i64 k), run_findKey hk hj]
  cases hm : mget l k with
  | none => simp [hz]
  | some v => simp

theorem run_insert_map (ht : P.underlying t = some (.map kt e)) (hk : P.underlying kt = some (.int .i64)) (h : MapIs w r l) (k : Int) (v : Value) (hn : mget l k = none) :
    ∃ w', (Instr.mapUpdate t (.map (some r)) (.int .i64 k) v).run P w = .ok () w' ∧ MapIs w' r (l ++ [(k, v)]) ∧ KeepB (fun b => b ≠ r) w w' := by
  obtain ⟨es, c, h1, h2⟩ := h
  obtain ⟨j, hj⟩ := findNow_mget k es.toList l 0 h2
  rw [hn] at hj
  refine ⟨w.putObj r (.map (es.push { key := .int .i64 k, val := v, born := c }) (c + 1)), ?_, ⟨_, _, World.putObj_heap_same (Array.getElem?_eq_some_iff.1 h1).1, ?_⟩, (KeepB.refl _ _).putObj _ _ (fun _ h => h rfl)⟩
  · simp only [Instr.mapUpdate, Sem.run_bind, run_underlying ht, Result.andThen_ok, MapKept.run_getObj_map h1, run_checkKey hk (isKey_i64 k), run_findKey hk hj, Option.map_none, MapKept.run_setObj_map _ h1]
    rfl
  · simp [h2]

/-- An entry of a literal, at the operation. -/
theorem list_insert {ops : Array Oper} {rest : List Oper} {o : Oper} {a : Act} {Q : Exit → Act → World → Prop} (hgd : o.guard = none) (m x y : Operand) (hop : o.op = .insert t m x y)
    (ht : P.underlying t = some (.map kt e)) (hk : P.underlying kt = some (.int .i64)) (h : MapIs w r l) (hm : a.eval m = .map (some r)) (k : Int) (hx : a.eval x = .int .i64 k) (hn : mget l k = none)
    (hK : ∀ w', MapIs w' r (l ++ [(k, a.eval y)]) → KeepB (fun b => b ≠ r) w w' → wpList P ops Q rest (a.put o.dst undef) w') : wpList P ops Q (o :: rest) a w := by
  refine wpList_plain hgd fun K' hK' => ?_
  obtain ⟨w', hrun, r1, r2⟩ := run_insert_map ht hk h k (a.eval y) hn
  unfold Oper.wp
  simp [execOp, hop, hm, hx, hrun, Result.andThen]
  exact hK' _ _ (hK w' r1 r2)
end
end Go.Proofs.Ythngkojbokknfaa
/- What does not write. -/
namespace Go.Proofs.Ythngkojbokknfaa
open Go Go.RowKit

/-- On no road does it write. -/
def NW {α : Type} (P : Program) : Sem α → Prop
  | .pure _ => True
  | .load _ _ k => ∀ v, NW P (k v)
  | .store _ _ _ _ => False
  | .new _ k => ∀ r, NW P (k r)
  | .shape _ k => ∀ s, NW P (k s)
  | .freeze _ _ _ => False
  | .frozen _ k => ∀ b, NW P (k b)
  | .getObj _ k => ∀ o, NW P (k o)
  | .setObj _ _ _ => False
  | .choose _ k => ∀ n, NW P (k n)
  | .sys _ _ => False
  | .program k => NW P (k P)
  | .mark _ k => NW P k
  | .halt _ => True

theorem NW.bind_ {α β : Type} {P : Program} (e : Sem α) (f : α → Sem β) (he : NW P e) (hf : ∀ a, NW P (f a)) : NW P (e >>= f) := by
  show NW P (Sem.bind e f)
  induction e with
  | pure a => exact hf a
  | load m a k ih => exact fun v => ih v (he v)
  | store => exact he.elim
  | new o k ih => exact fun v => ih v (he v)
  | shape s k ih => exact fun v => ih v (he v)
  | freeze => exact he.elim
  | frozen a k ih => exact fun v => ih v (he v)
  | getObj r k ih => exact fun v => ih v (he v)
  | setObj => exact he.elim
  | choose q k ih => exact fun v => ih v (he v)
  | sys => exact he.elim
  | program k ih => exact ih _ he
  | mark m k ih => exact ih he
  | halt h => trivial
theorem NW.mono_ {α : Type} {P : Program} (e : Sem α) : NW P e → ∀ w v w', e.run P w = .ok v w' → w.drawn ≤ w'.drawn ∧ w.heap.size ≤ w'.heap.size ∧ (w'.drawn = w.drawn → w'.heap.size = w.heap.size → w' = w) := by
  induction e with
  | pure a => intro _ w v w' h; simp only [Sem.run, Result.ok.injEq] at h; obtain ⟨_, rfl⟩ := h; exact ⟨Nat.le_refl _, Nat.le_refl _, fun _ _ => rfl⟩
  | load m a k ih =>
    intro hn w v w' h
    simp only [Sem.run] at h
    split at h
    · exact ih _ (hn _) _ _ _ h
    · split at h
      · exact ih _ (hn _) _ _ _ h
      · cases h
  | store => intro hn; exact hn.elim
  | new o k ih =>
    intro hn w v w' h
    simp only [Sem.run] at h
    have := ih _ (hn _) _ _ _ h
    have h2 := this.2.1
    simp at h2
    exact ⟨this.1, by omega, fun _ h3 => by omega⟩
  | shape r k ih => intro hn w v w' h; simp only [Sem.run] at h; exact ih _ (hn _) _ _ _ h
  | freeze => intro hn; exact hn.elim
  | frozen a k ih => intro hn w v w' h; simp only [Sem.run] at h; exact ih _ (hn _) _ _ _ h
  | getObj r k ih =>
    intro hn w v w' h
    simp only [Sem.run] at h
    split at h
    · cases h
    · exact ih _ (hn _) _ _ _ h
    · cases h
  | setObj => intro hn; exact hn.elim
  | choose q k ih =>
    intro hn w v w' h
    simp only [Sem.run] at h
    split at h
    · exact ih _ (hn _) _ _ _ h
    · have := ih _ (hn _) _ _ _ h
      have h2 := this.1
      simp at h2
      exact ⟨by omega, this.2.1, fun h3 _ => by omega⟩
  | sys => intro hn; exact hn.elim
  | program k ih => intro hn w v w' h; exact ih _ hn _ _ _ h
  | mark m k ih => intro hn w v w' h; exact ih hn _ _ _ h
  | halt h => intro _ w v w' h; simp [Sem.run] at h

section
variable {P : Program}
theorem NW.halt_ {α : Type} (h : Halt) : NW P (Sem.halt h : Sem α) := trivial
theorem NW.pure_ {α : Type} (a : α) : NW P (pure a : Sem α) := trivial
theorem NW.stuck_ {α : Type} (h : String) : NW P (stuck h : Sem α) := trivial
theorem NW.unsupported_ {α : Type} (h : Unsupported) : NW P (unsupported h : Sem α) := trivial
theorem NW.program_ : NW P program := trivial
theorem NW.shape_ (r : Nat) : NW P (shape r) := fun _ => trivial
theorem NW.getObj_ (r : Nat) : NW P (getObj r) := fun _ => trivial
theorem NW.frozen_ (r : Addr) : NW P (frozen r) := fun _ => trivial
theorem NW.choose_ (q : Question) : NW P (choose q) := fun _ => trivial
theorem NW.load_ (a : Addr) : NW P (load a) := fun _ => trivial
theorem NW.newObj_ (o : Obj) : NW P (newObj o) := fun _ => trivial
theorem NW.map_ {α β : Type} (f : α → β) (e : Sem α) (h : NW P e) : NW P (f <$> e) := NW.bind_ e (fun a => pure (f a)) h fun _ => trivial
theorem NW.forIn_ {α β : Type} (f : α → β → Sem (ForInStep β)) (hf : ∀ a b, NW P (f a b)) : ∀ (l : List α) (b : β), NW P (forIn l b f)
  | [], b => trivial
  | x :: l, b => by
    rw [List.forIn_cons]
    refine NW.bind_ _ _ (hf x b) fun r => ?_
    cases r with
    | done b => trivial
    | yield b => exact NW.forIn_ f hf l b
theorem NW.forInA_ {α β : Type} (f : α → β → Sem (ForInStep β)) (hf : ∀ a b, NW P (f a b)) (l : Array α) (b : β) : NW P (forIn l b f) := by
  rw [← Array.forIn_toList]
  exact NW.forIn_ f hf l.toList b
theorem NW.forInR_ {β : Type} (f : Nat → β → Sem (ForInStep β)) (hf : ∀ a b, NW P (f a b)) (l : Std.Legacy.Range) (b : β) : NW P (forIn l b f) := by
  rw [Std.Legacy.Range.forIn_eq_forIn_range']
  exact NW.forIn_ f hf _ b
theorem NW.underlying_ (t : TypeId) : NW P (underlying t) := by
  unfold underlying
  refine NW.bind_ _ _ trivial fun p => ?_
  split <;> trivial
theorem NW.typeInfo_ (t : TypeId) : NW P (typeInfo t) := by
  unfold typeInfo
  refine NW.bind_ _ _ trivial fun p => ?_
  split <;> trivial
theorem NW.sizeOf_ (t : TypeId) : NW P (Go.sizeOf t) := by
  unfold Go.sizeOf
  exact NW.bind_ _ _ (NW.typeInfo_ t) fun _ => trivial
theorem NW.isAgg_ (t : TypeId) : NW P (isAgg t) := by
  unfold isAgg
  refine NW.bind_ _ _ (NW.underlying_ t) fun p => ?_
  split <;> trivial
theorem NW.goPanic_ {α : Type} (v : Value) : NW P (goPanic v : Sem α) := trivial
theorem NW.part_ (t : TypeId) (cs : Array Value) (off : Nat) : NW P (part t cs off) := by
  unfold part
  repeat' first | exact NW.isAgg_ _ | exact NW.sizeOf_ _ | exact NW.pure_ _ | exact NW.stuck_ _ | (refine NW.bind_ _ _ ?_ fun _ => ?_) | split
theorem NW.loadCellsFrom_ (a : Addr) : ∀ (n i : Nat) (acc : Array Value), NW P (loadCellsFrom a i n acc)
  | 0, i, acc => trivial
  | n + 1, i, acc => by
    unfold loadCellsFrom
    exact NW.bind_ _ _ (NW.load_ _) fun _ => NW.loadCellsFrom_ a n _ _
theorem NW.loadVar_ (t : TypeId) (a : Addr) : NW P (loadVar t a) := by
  unfold loadVar loadCells
  repeat' first | exact NW.isAgg_ _ | exact NW.sizeOf_ _ | exact NW.pure_ _ | exact NW.load_ _ | exact NW.loadCellsFrom_ _ _ _ _ | (refine NW.bind_ _ _ ?_ fun _ => ?_) | split
theorem NW.numberAt_ (r : Nat) : NW P (numberAt r) := by
  unfold numberAt
  repeat' first | exact NW.shape_ _ | exact NW.getObj_ _ | exact NW.pure_ _ | (refine NW.bind_ _ _ ?_ fun _ => ?_) | split
theorem NW.viewAt_ (r : Nat) : NW P (viewAt r) := by
  unfold viewAt
  repeat' first | exact NW.shape_ _ | exact NW.getObj_ _ | exact NW.pure_ _ | (refine NW.bind_ _ _ ?_ fun _ => ?_) | split
theorem NW.noView_ (r : Addr) : NW P (noView r) := by
  unfold noView
  repeat' first | exact NW.viewAt_ _ | exact NW.pure_ _ | exact NW.unsupported_ _ | (refine NW.bind_ _ _ ?_ fun _ => ?_) | split
theorem NW.behindNumber_ (n : Addr) : NW P (behindNumber n) := by
  unfold behindNumber
  repeat' first | exact NW.numberAt_ _ | exact NW.pure_ _ | (refine NW.bind_ _ _ ?_ fun _ => ?_) | split
theorem NW.stringish_ (n : Addr) : NW P (stringish n) := by
  unfold stringish
  repeat' first | exact NW.frozen_ _ | exact NW.shape_ _ | exact NW.pure_ _ | (refine NW.bind_ _ _ ?_ fun _ => ?_) | split
theorem NW.mayBeOne_ (a b : Addr) : NW P (mayBeOne a b) := by
  unfold mayBeOne
  repeat' first | exact NW.stringish_ _ | exact NW.shape_ _ | exact NW.pure_ _ | (refine NW.bind_ _ _ ?_ fun _ => ?_) | split
theorem NW.sameAddr_ (a b : Addr) : NW P (sameAddr a b) := by
  unfold sameAddr
  repeat' first | exact NW.frozen_ _ | exact NW.noView_ _ | exact NW.mayBeOne_ _ _ | exact NW.choose_ _ | exact NW.unsupported_ _ | exact NW.pure_ _ | (refine NW.bind_ _ _ ?_ fun _ => ?_) | split
end
end Go.Proofs.Ythngkojbokknfaa
/- Which operations do not write. -/
namespace Go.Proofs.Ythngkojbokknfaa
open Go Go.RowKit
section
variable {P : Program}
theorem NW.elemOf_ (t : TypeId) : NW P (elemOf t) := by
  unfold elemOf
  repeat' first | exact NW.underlying_ _ | exact NW.pure_ _ | exact NW.stuck_ _ | (refine NW.bind_ _ _ ?_ fun _ => ?_) | split | dsimp only
theorem NW.newVar_ (t : TypeId) (v : Value) : NW P (newVar t v) := by
  unfold newVar newRow
  exact NW.bind_ _ _ (NW.newObj_ _) fun _ => NW.pure_ _
theorem NW.runtimePanic_ {α : Type} (e : RuntimeError) : NW P (runtimePanic e : Sem α) := by
  unfold runtimePanic
  cases e <;> repeat' first | exact NW.program_ | exact NW.goPanic_ _ | exact NW.elemOf_ _ | exact NW.newVar_ _ _ | (refine NW.bind_ _ _ ?_ fun _ => ?_) | split | dsimp only
theorem NW.boundsPanic_ {α : Type} (k : IntKind) (x y : Int) (c : BoundsCode) : NW P (boundsPanic k x y c : Sem α) := by
  unfold boundsPanic
  repeat' first | exact NW.runtimePanic_ _ | exact NW.pure_ _ | exact NW.map_ _ _ (NW.choose_ _) | (refine NW.bind_ _ _ ?_ fun _ => ?_) | split | dsimp only
theorem NW.byteOf_ (a : Addr) : NW P (byteOf a) := by
  unfold byteOf
  repeat' first | exact NW.program_ | exact NW.noView_ _ | exact NW.shape_ _ | exact NW.pure_ _ | exact NW.stuck_ _ | (refine NW.bind_ _ _ ?_ fun _ => ?_) | split | dsimp only
theorem NW.fieldPlace_ (a : Addr) (f : Field) : NW P (fieldPlace a f) := by
  unfold fieldPlace partAt
  repeat' first | exact NW.byteOf_ _ | exact NW.sizeOf_ _ | exact NW.pure_ _ | (refine NW.bind_ _ _ ?_ fun _ => ?_) | split | dsimp only
theorem NW.asIntOf_ (v : Value) : NW P (asIntOf v) := by
  unfold asIntOf
  split <;> trivial
theorem NW.asBool_ (v : Value) : NW P (asBool v) := by
  unfold asBool
  split <;> trivial
theorem NW.asAgg_ (v : Value) : NW P (asAgg v) := by
  unfold asAgg
  split <;> trivial
theorem NW.sureAddr_ (v : Value) : NW P (Instr.sureAddr v) := by
  unfold Instr.sureAddr
  split <;> trivial
theorem NW.typeStr_ (t : TypeId) : NW P (typeStr t) := by
  unfold typeStr
  repeat' first | exact NW.typeInfo_ _ | exact NW.unsupported_ _ | exact NW.pure_ _ | (refine NW.bind_ _ _ ?_ fun _ => ?_) | split | dsimp only
theorem NW.samePointer_ (a b : Option Addr) : NW P (samePointer a b) := by
  unfold samePointer
  split
  · exact NW.sameAddr_ _ _
  · exact NW.pure_ _
set_option maxHeartbeats 4000000 in
theorem NW.equalIn_ : ∀ (d : Nat) (t : TypeId) (x y : Value), NW P (Op.equalIn d t x y)
  | 0, t, x, y => trivial
  | d + 1, t, x, y => by
    rw [Op.equalIn]
    refine NW.bind_ _ _ (NW.underlying_ _) fun u => ?_
    split <;> repeat' first | exact NW.equalIn_ d _ _ _ | exact NW.samePointer_ _ _ | exact NW.sameAddr_ _ _ | exact NW.behindNumber_ _ | exact NW.byteOf_ _ | exact NW.typeStr_ _ | exact NW.runtimePanic_ _ | exact NW.part_ _ _ _ | exact NW.sizeOf_ _ | exact NW.typeInfo_ _ | exact NW.program_ | exact NW.choose_ _ | exact NW.pure_ _ | exact NW.stuck_ _ | exact NW.unsupported_ _ | (refine NW.forInA_ _ (fun _ _ => ?_) _ _) | (refine NW.forInR_ _ (fun _ _ => ?_) _ _) | (refine NW.bind_ _ _ ?_ fun _ => ?_) | split | dsimp only
theorem NW.eqGuardIn_ : ∀ (d : Nat) (t : TypeId) (x y : Value), NW P (Op.eqGuardIn d t x y)
  | 0, t, x, y => trivial
  | d + 1, t, x, y => by
    rw [Op.eqGuardIn]
    refine NW.bind_ _ _ (NW.underlying_ _) fun u => ?_
    split <;> repeat' first | exact NW.eqGuardIn_ d _ _ _ | exact NW.part_ _ _ _ | exact NW.sizeOf_ _ | exact NW.pure_ _ | (refine NW.forInA_ _ (fun _ _ => ?_) _ _) | (refine NW.forInR_ _ (fun _ _ => ?_) _ _) | (refine NW.bind_ _ _ ?_ fun _ => ?_) | split | dsimp only
end
end Go.Proofs.Ythngkojbokknfaa
/- Operations that only read. -/
namespace Go.Proofs.Ythngkojbokknfaa
open Go Go.RowKit
section
variable {P : Program}
theorem NW.ite_ {α : Type} (c : Prop) [Decidable c] (a b : Sem α) (ha : NW P a) (hb : NW P b) : NW P (if c then a else b) := by split <;> assumption
theorem NW.intArith_ (op : BinOp) (k : IntKind) (x y : Int) : NW P (Op.intArith op k x y) := by unfold Op.intArith; split <;> trivial
theorem NW.intBits_ (op : BinOp) (k : IntKind) (x y : Int) : NW P (Op.intBits op k x y) := by unfold Op.intBits; dsimp only; split <;> trivial
theorem NW.intCmp_ (op : BinOp) (x y : Int) : NW P (Op.intCmp op x y) := by unfold Op.intCmp; split <;> trivial
theorem NW.intDiv_ (op : BinOp) (k : IntKind) (x y : Int) : NW P (Op.intDiv op k x y) := by
  unfold Op.intDiv
  split
  · exact NW.runtimePanic_ _
  · split <;> trivial
theorem NW.shift_ (op : BinOp) (k : IntKind) (x : Int) (yk : IntKind) (y : Int) : NW P (Op.shift op k x yk y) := by
  unfold Op.shift
  split
  · exact NW.runtimePanic_ _
  · dsimp only; split <;> trivial
theorem NW.stringOp_ (op : BinOp) (x y : ByteArray) : NW P (Op.stringOp op x y) := by
  unfold Op.stringOp
  dsimp only
  (repeat' split) <;> trivial
theorem NW.floatCmp_ (op : BinOp) (k : FloatKind) (x y : Nat) : NW P (Op.floatCmp op k x y) := by
  unfold Op.floatCmp
  dsimp only
  split <;> trivial
theorem NW.floatArith_ (op : BinOp) (k : FloatKind) (x y : Nat) : NW P (Op.floatArith op k x y) := by
  unfold Op.floatArith
  repeat' first | exact NW.pure_ _ | exact NW.stuck_ _ | exact NW.choose_ _ | (refine NW.bind_ _ _ ?_ fun _ => ?_) | split | dsimp only
theorem NW.asInt_ (v : Value) : NW P (asInt v) := by
  unfold asInt
  exact NW.bind_ _ _ (NW.asIntOf_ _) fun _ => NW.pure_ _
theorem NW.asNumber_ (a : Addr) (b : Bool) : NW P (asNumber a b) := by
  unfold asNumber
  exact NW.bind_ _ _ (NW.newObj_ _) fun _ => NW.pure_ _
theorem NW.unsafeAdd_ (ts : Array TypeId) (t : TypeId) (vs : Array Value) : NW P (Builtin.unsafeAdd_ ts t vs) := by
  rcases vs with ⟨l⟩
  rcases l with _ | ⟨x, _ | ⟨y, _ | ⟨z, r⟩⟩⟩
  · exact NW.stuck_ _
  · exact NW.stuck_ _
  · cases x <;> first | exact NW.stuck_ _ | skip
    unfold Builtin.unsafeAdd_
    dsimp only
    repeat' first | exact NW.pure_ _ | exact NW.stuck_ _ | exact NW.unsupported_ _ | exact NW.asInt_ _ | exact NW.viewAt_ _ | exact NW.shape_ _ | exact NW.program_ | (refine NW.bind_ _ _ ?_ fun _ => ?_) | split | dsimp only
  · cases x <;> exact NW.stuck_ _
theorem NW.movedNumber_ (t : TypeId) (x y : Value) : NW P (movedNumber t x y) := by
  unfold movedNumber
  repeat' first | exact NW.underlying_ _ | exact NW.pure_ _ | exact NW.stuck_ _ | exact NW.unsupported_ _ | exact NW.unsafeAdd_ _ _ _ | exact NW.behindNumber_ _ | exact NW.asNumber_ _ _ | (refine NW.bind_ _ _ ?_ fun _ => ?_) | split | dsimp only
theorem NW.movedPointer_ (t : TypeId) (x y : Value) : NW P (movedPointer t x y) := by
  unfold movedPointer
  repeat' first | exact NW.numberAt_ _ | exact NW.pure_ _ | exact NW.stuck_ _ | exact NW.unsupported_ _ | exact NW.unsafeAdd_ _ _ _ | (refine NW.bind_ _ _ ?_ fun _ => ?_) | split | dsimp only
theorem NW.twoPlaces_ (a b : Addr) : NW P (Op.twoPlaces a b) := by
  unfold Op.twoPlaces
  repeat' first | exact NW.byteOf_ _ | exact NW.program_ | exact NW.pure_ _ | exact NW.unsupported_ _ | (refine NW.bind_ _ _ ?_ fun _ => ?_) | split | dsimp only
theorem NW.addrSub_ (k : IntKind) (a b : Addr) : NW P (Op.addrSub k a b) := by
  unfold Op.addrSub
  exact NW.bind_ _ _ (NW.twoPlaces_ _ _) fun _ => NW.pure_ _
theorem NW.addrCmp_ (op : BinOp) (a b : Addr) : NW P (Op.addrCmp op a b) := by
  unfold Op.addrCmp
  refine NW.bind_ _ _ (NW.twoPlaces_ _ _) fun _ => ?_
  dsimp only
  split <;> trivial
theorem NW.addrMod_ (k : IntKind) (a : Addr) (n : Int) : NW P (Op.addrMod k a n) := by
  unfold Op.addrMod
  repeat' first | exact NW.byteOf_ _ | exact NW.shape_ _ | exact NW.typeInfo_ _ | exact NW.pure_ _ | exact NW.unsupported_ _ | (refine NW.bind_ _ _ ?_ fun _ => ?_) | split | dsimp only
theorem NW.eqGuard_ (op : BinOp) (t : TypeId) (x y : Operand) (a b : Value) : NW P (eqGuard op t x y a b) := by
  unfold eqGuard Op.maxDepth
  repeat' first | exact NW.eqGuardIn_ _ _ _ _ | exact NW.program_ | exact NW.pure_ _ | exact NW.unsupported_ _ | (refine NW.bind_ _ _ ?_ fun _ => ?_) | split | dsimp only
theorem NW.floatToFloat_ (a : FloatKind) (x : Nat) (b : FloatKind) : NW P (Conv.floatToFloat a x b) := by
  unfold Conv.floatToFloat
  repeat' first | exact NW.pure_ _ | exact NW.stuck_ _ | exact NW.choose_ _ | (refine NW.bind_ _ _ ?_ fun _ => ?_) | split | dsimp only
theorem NW.cArith_ (op : BinOp) (k : FloatKind) (x y : Nat) : NW P (Op.Complex.arith op k x y) := by
  unfold Op.Complex.arith
  repeat' first | exact NW.pure_ _ | exact NW.stuck_ _ | exact NW.floatArith_ _ _ _ _ | (refine NW.bind_ _ _ ?_ fun _ => ?_) | split | dsimp only
theorem NW.cCmp_ (op : BinOp) (k : FloatKind) (x y : Nat) : NW P (Op.Complex.cmp op k x y) := by
  unfold Op.Complex.cmp
  exact NW.bind_ _ _ (NW.floatCmp_ _ _ _ _) fun _ => NW.asBool_ _
theorem NW.cConv_ (k : FloatKind) (x : Nat) (d : FloatKind) : NW P (Op.Complex.conv k x d) := by
  unfold Op.Complex.conv
  repeat' first | exact NW.pure_ _ | exact NW.stuck_ _ | exact NW.floatToFloat_ _ _ _ | (refine NW.bind_ _ _ ?_ fun _ => ?_) | split | dsimp only
set_option maxHeartbeats 4000000 in
theorem NW.cQuot_ (a b c d : Nat) : NW P (Op.Complex.quotient a b c d) := by
  unfold Op.Complex.quotient Op.Complex.corrected Op.Complex.add Op.Complex.sub Op.Complex.mul Op.Complex.quo
  repeat' first | exact NW.pure_ _ | exact NW.cArith_ _ _ _ _ | exact NW.cCmp_ _ _ _ _ | (refine NW.bind_ _ _ ?_ fun _ => ?_) | split | dsimp only
theorem NW.cProd_ (a b c d : Nat) : NW P (Op.Complex.product a b c d) := by
  unfold Op.Complex.product Op.Complex.add Op.Complex.sub Op.Complex.mul
  repeat' first | exact NW.pure_ _ | exact NW.cArith_ _ _ _ _ | (refine NW.bind_ _ _ ?_ fun _ => ?_) | split | dsimp only
theorem NW.complexOp_ (op : BinOp) (k : FloatKind) (a b c d : Nat) : NW P (Op.complexOp op k a b c d) := by
  unfold Op.complexOp
  split <;> repeat' first | (with_reducible exact NW.pure_ _) | (with_reducible exact NW.stuck_ _) | (with_reducible exact NW.cArith_ _ _ _ _) | (with_reducible exact NW.cCmp_ _ _ _ _) | (with_reducible exact NW.cConv_ _ _ _) | (with_reducible exact NW.cQuot_ _ _ _ _) | (with_reducible exact NW.cProd_ _ _ _ _) | (with_reducible refine NW.bind_ _ _ ?_ fun _ => ?_) | split | dsimp only
set_option maxHeartbeats 4000000 in
theorem NW.binOp_ (op : BinOp) (t : TypeId) (x y : Value) : NW P (binOp op t x y) := by
  unfold binOp Op.equal
  split <;> repeat' first | exact NW.shift_ _ _ _ _ _ | exact NW.intArith_ _ _ _ _ | exact NW.intDiv_ _ _ _ _ | exact NW.intBits_ _ _ _ _ | exact NW.intCmp_ _ _ _ | exact NW.floatArith_ _ _ _ _ | exact NW.floatCmp_ _ _ _ _ | exact NW.complexOp_ _ _ _ _ _ _ | exact NW.stringOp_ _ _ _ | exact NW.equalIn_ _ _ _ _ | exact NW.movedPointer_ _ _ _ | exact NW.movedNumber_ _ _ _ | exact NW.addrSub_ _ _ _ | exact NW.addrCmp_ _ _ _ | exact NW.addrMod_ _ _ _ | exact NW.behindNumber_ _ | exact NW.underlying_ _ | exact NW.pure_ _ | exact NW.stuck_ _ | exact NW.unsupported_ _ | (refine NW.bind_ _ _ ?_ fun _ => ?_) | split | dsimp only
end
end Go.Proofs.Ythngkojbokknfaa
/- Lights: operations that only read, by their kind. -/
namespace Go.Proofs.Ythngkojbokknfaa
open Go Go.RowKit
section
variable {P : Program}
theorem NW.unary_ (op : UnOp) (x : Value) : NW P (Op.unary op x) := by
  unfold Op.unary
  split <;> first | exact NW.intArith_ _ _ _ _ | exact NW.intBits_ _ _ _ _ | trivial
theorem NW.sliceBounds_ (b : Bool) (n c : Nat) (x y z : Option Value) : NW P (Instr.sliceBounds b n c x y z) := by
  unfold Instr.sliceBounds Instr.sliceBound
  repeat' first | exact NW.asIntOf_ _ | exact NW.boundsPanic_ _ _ _ _ | exact NW.pure_ _ | exact NW.stuck_ _ | (refine NW.bind_ _ _ ?_ fun _ => ?_) | split | dsimp only
theorem NW.asAddr_ (x : Value) : NW P (asAddr x) := by
  unfold asAddr
  split <;> first | exact NW.runtimePanic_ _ | trivial
theorem NW.sliceAt_ (t : TypeId) (x : Value) (a b c : Option Value) : NW P (Instr.sliceAt t x a b c) := by
  unfold Instr.sliceAt Instr.slice
  repeat' first | exact NW.underlying_ _ | exact NW.asAddr_ _ | exact NW.sizeOf_ _ | exact NW.sureAddr_ _ | exact NW.sliceBounds_ _ _ _ _ _ _ | exact NW.pure_ _ | exact NW.stuck_ _ | (refine NW.bind_ _ _ ?_ fun _ => ?_) | split | dsimp only
theorem NW.fieldAt_ (t : TypeId) (x : Value) (f : Nat) : NW P (Instr.fieldAt t x f) := by
  unfold Instr.fieldAt
  repeat' first | exact NW.underlying_ _ | exact NW.sureAddr_ _ | exact NW.fieldPlace_ _ _ | exact NW.pure_ _ | exact NW.stuck_ _ | (refine NW.bind_ _ _ ?_ fun _ => ?_) | split | dsimp only
theorem NW.field_ (t : TypeId) (x : Value) (f : Nat) : NW P (Instr.field t x f) := by
  unfold Instr.field
  repeat' first | exact NW.underlying_ _ | exact NW.asAgg_ _ | exact NW.part_ _ _ _ | exact NW.pure_ _ | exact NW.stuck_ _ | (refine NW.bind_ _ _ ?_ fun _ => ?_) | split | dsimp only
theorem NW.indexAt_ (t : TypeId) (x i : Value) : NW P (Instr.indexAt t x i) := by
  unfold Instr.indexAt
  repeat' first | exact NW.underlying_ _ | exact NW.asIntOf_ _ | exact NW.sureAddr_ _ | exact NW.sizeOf_ _ | exact NW.boundsPanic_ _ _ _ _ | exact NW.unsupported_ _ | exact NW.pure_ _ | exact NW.stuck_ _ | (refine NW.bind_ _ _ ?_ fun _ => ?_) | split | dsimp only
theorem NW.index_ (t : TypeId) (x i : Value) : NW P (Instr.index t x i) := by
  unfold Instr.index
  repeat' first | exact NW.underlying_ _ | exact NW.asIntOf_ _ | exact NW.part_ _ _ _ | exact NW.sizeOf_ _ | exact NW.boundsPanic_ _ _ _ _ | exact NW.unsupported_ _ | exact NW.pure_ _ | exact NW.stuck_ _ | (refine NW.bind_ _ _ ?_ fun _ => ?_) | split | dsimp only
theorem NW.extract_ (x : Value) (i : Nat) : NW P (Instr.extract x i) := by
  unfold Instr.extract
  (repeat' split) <;> trivial
theorem NW.len_ (ts : Array TypeId) (t : TypeId) (vs : Array Value) : NW P (Builtin.len_ ts t vs) := by
  unfold Builtin.len_
  repeat' first | exact NW.underlying_ _ | exact NW.getObj_ _ | exact NW.pure_ _ | exact NW.stuck_ _ | (refine NW.bind_ _ _ ?_ fun _ => ?_) | split | dsimp only
theorem NW.cap_ (ts : Array TypeId) (t : TypeId) (vs : Array Value) : NW P (Builtin.cap_ ts t vs) := by
  unfold Builtin.cap_
  repeat' first | exact NW.underlying_ _ | exact NW.getObj_ _ | exact NW.pure_ _ | exact NW.stuck_ _ | (refine NW.bind_ _ _ ?_ fun _ => ?_) | split | dsimp only
theorem NW.foldlM_ {α β : Type} (f : β → α → Sem β) (hf : ∀ b a, NW P (f b a)) : ∀ (l : List α) (b : β), NW P (l.foldlM f b)
  | [], b => trivial
  | x :: l, b => by
    rw [List.foldlM_cons]
    exact NW.bind_ _ _ (hf b x) fun r => NW.foldlM_ f hf l r
theorem NW.max_ (ts : Array TypeId) (t : TypeId) (vs : Array Value) : NW P (Builtin.max_ ts t vs) := by
  unfold Builtin.max_
  split
  · exact NW.stuck_ _
  · refine NW.foldlM_ _ (fun a b => ?_) _ _
    unfold Builtin.max2
    repeat' first | exact NW.choose_ _ | exact NW.asBool_ _ | exact NW.stringOp_ _ _ _ | exact NW.unsupported_ _ | exact NW.pure_ _ | exact NW.stuck_ _ | (refine NW.bind_ _ _ ?_ fun _ => ?_) | split | dsimp only
theorem NW.min_ (ts : Array TypeId) (t : TypeId) (vs : Array Value) : NW P (Builtin.min_ ts t vs) := by
  unfold Builtin.min_
  split
  · exact NW.stuck_ _
  · refine NW.foldlM_ _ (fun a b => ?_) _ _
    unfold Builtin.min2
    repeat' first | exact NW.choose_ _ | exact NW.asBool_ _ | exact NW.stringOp_ _ _ _ | exact NW.unsupported_ _ | exact NW.pure_ _ | exact NW.stuck_ _ | (refine NW.bind_ _ _ ?_ fun _ => ?_) | split | dsimp only

/-- By its kind it only reads. -/
def isLight (o : Oper) : Bool :=
  match o.op with
  | .move _ | .assign _ | .pick _ _ _ | .load _ _ | .binOp _ _ _ _ _ | .unOp _ _ _ | .slice _ _ _ _ _ | .fieldAddr _ _ _ | .field _ _ _ | .indexAddr _ _ _ | .index _ _ _ | .extract _ _ => true
  | .call c => match c.callee with
    | .builtin .len | .builtin .cap | .builtin .min | .builtin .max => true
    | _ => false
  | _ => false

theorem light_form {o : Oper} (h : isLight o = true) (ρ : Operand → Value) : ∃ s : Sem Value, NW P s ∧ execOp ρ o = (s >>= fun v => pure (.value v)) := by
  obtain ⟨dst, op, ty, pos, aft, gd⟩ := o
  cases op <;> first | (cases h; done) | skip
  case move x => exact ⟨pure (ρ x), trivial, rfl⟩
  case assign x => exact ⟨pure (ρ x), trivial, rfl⟩
  case pick c x y =>
    refine ⟨asBool (ρ c) >>= fun b => pure (if b then ρ x else ρ y), NW.bind_ _ _ (NW.asBool_ _) fun _ => NW.pure_ _, ?_⟩
    show (asBool (ρ c) >>= fun b => (pure (Next.value (if b then ρ x else ρ y)) : Sem Next)) = _
    cases ρ c <;> rfl
  case load t x => exact ⟨Instr.loadAt t (ρ x), NW.bind_ _ _ (NW.sureAddr_ _) fun _ => NW.loadVar_ _ _, rfl⟩
  case binOp b t x y r => exact ⟨do eqGuard b t x y (ρ x) (ρ y); binOp b t (ρ x) (ρ y), NW.bind_ _ _ (NW.eqGuard_ _ _ _ _ _ _) fun _ => NW.binOp_ _ _ _ _, rfl⟩
  case unOp b t x => exact ⟨Op.unary b (ρ x), NW.unary_ _ _, rfl⟩
  case slice t x lo hi mx => exact ⟨Instr.sliceAt t (ρ x) (lo.map ρ) (hi.map ρ) (mx.map ρ), NW.sliceAt_ _ _ _ _ _, rfl⟩
  case fieldAddr t x f => exact ⟨Instr.fieldAt t (ρ x) f, NW.fieldAt_ _ _ _, rfl⟩
  case field t x f => exact ⟨Instr.field t (ρ x) f, NW.field_ _ _ _, rfl⟩
  case indexAddr t x i => exact ⟨Instr.indexAt t (ρ x) (ρ i), NW.indexAt_ _ _ _, rfl⟩
  case index t x i => exact ⟨Instr.index t (ρ x) (ρ i), NW.index_ _ _ _, rfl⟩
  case extract x i => exact ⟨Instr.extract (ρ x) i, NW.extract_ _ _, rfl⟩
  case call c =>
    obtain ⟨callee, args, ats⟩ := c
    cases callee <;> first | (cases h; done) | skip
    case builtin b =>
      cases b <;> first | (cases h; done) | skip
      case len => exact ⟨Builtin.len_ ats ty (args.map ρ), NW.len_ _ _ _, rfl⟩
      case cap => exact ⟨Builtin.cap_ ats ty (args.map ρ), NW.cap_ _ _ _, rfl⟩
      case min => exact ⟨Builtin.min_ ats ty (args.map ρ), NW.min_ _ _ _, rfl⟩
      case max => exact ⟨Builtin.max_ ats ty (args.map ρ), NW.max_ _ _ _, rfl⟩
/-- What a light leaves. -/
theorem light_run {o : Oper} (h : isLight o = true) {ρ : Operand → Value} {w w' : World} {n : Next} (hr : (execOp ρ o).run P w = .ok n w') :
    (∃ v, n = .value v) ∧ w.drawn ≤ w'.drawn ∧ w.heap.size ≤ w'.heap.size ∧ (w'.drawn = w.drawn → w'.heap.size = w.heap.size → w' = w) := by
  obtain ⟨s, hs, he⟩ := light_form (P := P) h ρ
  rw [he, Sem.run_bind] at hr
  cases hrun : s.run P w with
  | ok v w2 =>
    rw [hrun] at hr
    simp only [Result.andThen_ok, Sem.run_pure, Result.ok.injEq] at hr
    obtain ⟨rfl, rfl⟩ := hr
    exact ⟨⟨v, rfl⟩, NW.mono_ s hs w v w2 hrun⟩
  | halt x w2 => rw [hrun] at hr; cases hr
end
end Go.Proofs.Ythngkojbokknfaa
/- A region that draws its order, with calls that make memory: lights first, calls one by one, each in a world that has grown however. -/
namespace Go.Proofs.Ythngkojbokknfaa
open Go Go.RowKit
section
variable {P : Program} {ops : Array Oper} {Q : Exit → Act → World → Prop} {md : Region.Mode}

/-- Whatever order is picked from here on, and however the world grows meanwhile. -/
def wpAnyM (P : Program) (md : Region.Mode) (ops : Array Oper) (Q : Exit → Act → World → Prop) : Nat → Array Bool → Act → World → Prop
  | 0, listed, a, w => Region.ready md ops listed = [] ∧ ∀ w1, Below w.heap.size w w1 → Q .normal a w1
  | fuel + 1, listed, a, w => ∀ w1, Below w.heap.size w w1 → (Region.ready md ops listed = [] → Q .normal a w1) ∧
    ∀ i ∈ Region.ready md ops listed, wpOp P ops Q i (fun a' w' => Below w1.heap.size w1 w' ∧ wpAnyM P md ops Q fuel (listed.setIfInBounds i true) a' w') a w1

theorem wpAnyM.any : ∀ (fuel : Nat) (listed : Array Bool) (a : Act) (w : World), wpAnyM P md ops Q fuel listed a w → wpAny P md ops Q fuel listed a w
  | 0, _, _, w, h => ⟨h.1, h.2 w (Below.refl _ _)⟩
  | fuel + 1, _, _, w, h => ⟨(h w (Below.refl _ _)).1, fun i hi => wpOp_mono (fun a' w' h' => wpAnyM.any fuel _ a' w' h'.2) ((h w (Below.refl _ _)).2 i hi)⟩
theorem wpAnyM.mono : ∀ {fuel : Nat} {listed : Array Bool} {a : Act} {w w' : World}, wpAnyM P md ops Q fuel listed a w → Below w.heap.size w w' → wpAnyM P md ops Q fuel listed a w'
  | 0, _, _, _, _, h, hb => ⟨h.1, fun w1 h1 => h.2 w1 (bTr hb h1)⟩
  | _ + 1, _, _, _, _, h, hb => fun w1 h1 => h w1 (bTr hb h1)
theorem wpAnyM_done {listed : Array Bool} {a : Act} {w : World} (hr : Region.ready md ops listed = []) (h : ∀ w1, Below w.heap.size w w1 → Q .normal a w1) : ∀ fuel, wpAnyM P md ops Q fuel listed a w
  | 0 => ⟨hr, h⟩
  | _ + 1 => fun w1 h1 => ⟨fun _ => h w1 h1, by rw [hr]; simp⟩
theorem YieldsIf.grow {oi : Oper} {v : Value} {a : Act} {w w' : World} (h : YieldsIf P ops (fun W => Below w.heap.size w W) oi v a) (hb : Below w.heap.size w w') : YieldsIf P ops (fun W => Below w'.heap.size w' W) oi v a :=
  h.imp (fun ⟨h1, h2⟩ => ⟨h1, fun W hW => h2 W (bTr hb hW)⟩) id
/-- What yields in every grown world may be taken first. -/
theorem wpAnyM_first {i : Nat} {oi : Oper} {v : Value} (hi : ops[i]? = some oi) (hsel : ∀ (j : Nat) (o : Oper) cs b, ops[j]? = some o → o.op ≠ .select cs b)
    (hQ : ∀ c a w, Q (.panic c) (a.put oi.dst v) w → Q (.panic c) a w) :
    ∀ (fuel : Nat) (listed : Array Bool) (a : Act) (w : World),
      (∀ j oj, ops[j]? = some oj → j ≠ i → listed.getD j true = false → (∀ e ∈ oj.after, Region.binds md e = true → e.on ≠ i) → oi.apart ops oj = true) →
      i ∈ Region.ready md ops listed → YieldsIf P ops (fun W => Below w.heap.size w W) oi v a →
      wpAnyM P md ops Q fuel (listed.setIfInBounds i true) (a.put oi.dst v) w → wpAnyM P md ops Q (fuel + 1) listed a w := by
  intro fuel
  induction fuel with
  | zero =>
    intro listed a w hfree hr hy H w1 h1
    refine ⟨fun h => (by rw [h] at hr; cases hr), fun j hj => ?_⟩
    by_cases hji : j = i
    · subst hji; exact hy.wpOp hi h1 ⟨Below.refl _ _, H.mono h1⟩
    · have := ready_mono hj hji
      rw [H.1] at this
      cases this
  | succ fuel ih =>
    intro listed a w hfree hr hy H w1 hw1
    refine ⟨fun h => (by rw [h] at hr; cases hr), fun j hj => ?_⟩
    by_cases hji : j = i
    · subst hji; exact hy.wpOp hi hw1 ⟨Below.refl _ _, H.mono hw1⟩
    · have h1 := (H w1 hw1).2 j (ready_mono hj hji)
      obtain ⟨hjun, oj, hoj, hall⟩ := mem_ready.1 hj
      have hnot : ∀ e ∈ oj.after, Region.binds md e = true → e.on ≠ i := fun e he hb heq => by
        have h1 := hall e he hb
        have h0 := (mem_ready.1 hr).1
        rw [heq] at h1
        rcases Nat.lt_or_ge i listed.size with h' | h'
        · simp [h'] at h0 h1; rw [h0] at h1; cases h1
        · simp [Array.getElem?_eq_none h'] at h1
      have h2 := wpOp_putIf hoj (hfree j oj hoj hji hjun hnot) (fun cs b => hsel i oi cs b hi) (fun cs b => hsel j oj cs b hoj) hQ (YieldsIf.grow hy hw1) h1
      have hfree' : ∀ k ok, ops[k]? = some ok → k ≠ i → (listed.setIfInBounds j true).getD k true = false →
          (∀ e ∈ ok.after, Region.binds md e = true → e.on ≠ i) → oi.apart ops ok = true := fun k ok hk hki hun hno => by
        refine hfree k ok hk hki ?_ hno
        by_cases hjk : j = k
        · subst hjk; exact hjun
        · rw [getD_set_ne true hjk] at hun; exact hun
      refine wpOp_mono (fun a' w' h3 => ⟨h3.2.1, ih (listed.setIfInBounds j true) a' w' hfree' (ready_mono hr (Ne.symm hji)) (YieldsIf.grow h3.1 h3.2.1) ?_⟩) h2
      rw [Array.setIfInBounds_comm _ _ hji]
      exact h3.2.2
/-- The end of a batch of lights. -/
def Lend (A : Act) (wE : World) : Exit → Act → World → Prop := fun e a w => e = .normal ∧ a = A ∧ w = wE

theorem light_wp {o : Oper} (hl : isLight o = true) {a A : Act} {u wE : World} {K : Act → World → Prop} (h : o.wp P a u K (Lend A wE) ∨ (o.asks P a u ∧ LetsOut (Lend A wE))) :
    ∃ v u', (execOp a.eval o).run P u = .ok (.value v) u' ∧ K (a.put o.dst v) u' := by
  rcases h with h | ⟨_, _, _, h, _⟩
  · unfold Oper.wp at h
    cases hr : (execOp a.eval o).run P u with
    | ok n u' =>
      obtain ⟨⟨v, rfl⟩, _⟩ := light_run hl hr
      rw [hr] at h
      exact ⟨v, u', rfl, h⟩
    | halt x u' =>
      rw [hr] at h
      cases x <;> first | exact h.elim | (obtain ⟨h, _⟩ := h; cases h)
  · cases h

theorem lights_end {A : Act} {wE : World} : ∀ (ls : List Oper) (a : Act) (u : World), (∀ o ∈ ls, isLight o = true) → wpList P ops (Lend A wE) ls a u →
    u.drawn ≤ wE.drawn ∧ u.heap.size ≤ wE.heap.size ∧ ∀ d, (∀ o ∈ ls, o.dst ≠ some d) → A.tmps[d]? = a.tmps[d]?
  | [], a, u, _, h => by
    obtain ⟨_, rfl, rfl⟩ := h
    exact ⟨Nat.le_refl _, Nat.le_refl _, fun _ _ => rfl⟩
  | o :: ls, a, u, hl, h => by
    unfold wpList at h
    have hput : ∀ (v : Value) (d : Tmp), o.dst ≠ some d → (a.put o.dst v).tmps[d]? = a.tmps[d]? := fun v d hd => by
      unfold Act.put
      split
      · rename_i d' hd'
        have : d' ≠ d := fun e => hd (by rw [hd', e])
        rw [Array.getElem?_setIfInBounds, if_neg this]
      · rfl
    split at h
    · obtain ⟨v, u', hr, hk⟩ := light_wp (hl o (by simp)) h
      obtain ⟨_, h1, h2, _⟩ := light_run (hl o (by simp)) hr
      obtain ⟨i1, i2, i3⟩ := lights_end ls _ _ (fun o' ho => hl o' (by simp [ho])) hk
      exact ⟨by omega, by omega, fun d hd => (i3 d fun o' ho => hd o' (by simp [ho])).trans (hput v d (hd o (by simp)))⟩
    · obtain ⟨i1, i2, i3⟩ := lights_end ls _ _ (fun o' ho => hl o' (by simp [ho])) h
      exact ⟨i1, i2, fun d hd => (i3 d fun o' ho => hd o' (by simp [ho])).trans (hput undef d (hd o (by simp)))⟩

theorem put_size (a : Act) (d : Option Tmp) (v : Value) : (a.put d v).tmps.size = a.tmps.size := by
  unfold Act.put; split <;> simp

/-- Are these lights, each ready when those ahead of it have come up, and apart from all that could come ahead of it? -/
def lightsOk (md : Region.Mode) (ops : Array Oper) (sz : Nat) : Array Bool → List Nat → List Oper → Bool
  | _, [], [] => true
  | listed, i :: is, o :: ls => isLight o && (Region.ready md ops listed).contains i && Region.free md ops listed i && (match o.dst with | some d => decide (d < sz) && ls.all (fun o' => o'.dst != some d) | none => false) && lightsOk md ops sz (listed.setIfInBounds i true) is ls
  | _, _, _ => false
/-- Those numbers' operations. -/
def Sel (ops : Array Oper) : List Nat → List Oper → Prop
  | [], [] => True
  | i :: is, o :: ls => ops[i]? = some o ∧ Sel ops is ls
  | _, _ => False
def listAll : Array Bool → List Nat → Array Bool
  | listed, [] => listed
  | listed, i :: is => listAll (listed.setIfInBounds i true) is
theorem lightsOk_all {sz : Nat} : ∀ {listed : Array Bool} (is : List Nat) (ls : List Oper), lightsOk md ops sz listed is ls = true → ∀ o ∈ ls, isLight o = true
  | _, [], [], _ => by simp
  | _, i :: is, o :: ls, h => by
    simp only [lightsOk, Bool.and_eq_true] at h
    intro o' ho
    rcases List.mem_cons.1 ho with rfl | ho
    · exact h.1.1.1.1
    · exact lightsOk_all is ls h.2 o' ho
  | _, [], _ :: _, h => by simp [lightsOk] at h
  | _, _ :: _, [], h => by simp [lightsOk] at h

theorem wpAnyM_lightsI (hns : Region.noSelect ops = true) {A : Act} : ∀ (is : List Nat) (ls : List Oper) (fuel : Nat) (listed : Array Bool) (a : Act) (w : World),
    Sel ops is ls → lightsOk md ops a.tmps.size listed is ls = true →
    (∀ w1, Below w.heap.size w w1 → wpList P ops (Lend A w1) ls a w1) → wpAnyM P md ops (NoPanic Q) fuel (listAll listed is) A w → wpAnyM P md ops (NoPanic Q) (fuel + is.length) listed a w
  | [], _ :: _, _, _, _, _, hf, _, _, _ => hf.elim
  | _ :: _, [], _, _, _, _, hf, _, _, _ => hf.elim
  | [], [], fuel, listed, a, w, hf, _, H, K => by
    obtain ⟨_, rfl, _⟩ := H w (Below.refl _ _)
    exact K
  | i :: is, o :: ls, fuel, listed, a, w, ⟨hi, hf⟩, hok, H, K => by
    have hok' := hok
    simp only [lightsOk, Bool.and_eq_true] at hok
    obtain ⟨⟨⟨⟨hl, hr⟩, hfree⟩, hd⟩, hrest⟩ := hok
    have hall := lightsOk_all is ls hrest
    obtain ⟨d, hdst, hdsz, hdis⟩ : ∃ d, o.dst = some d ∧ d < a.tmps.size ∧ ∀ o' ∈ ls, o'.dst ≠ some d := by
      cases hdd : o.dst with
      | none => rw [hdd] at hd; cases hd
      | some d =>
        rw [hdd] at hd
        simp only [Bool.and_eq_true, decide_eq_true_eq, List.all_eq_true] at hd
        exact ⟨d, rfl, hd.1, fun o' ho => by simpa using hd.2 o' ho⟩
    have hQ : ∀ (v : Value) c a w, NoPanic Q (.panic c) (a.put o.dst v) w → NoPanic Q (.panic c) a w := fun v c a w h => h
    cases hw : Region.wanted o (yielded ops a.tmps) with
    | true =>
      have step : ∀ w1, Below w.heap.size w w1 → ∃ v, (execOp a.eval o).run P w1 = .ok (.value v) w1 ∧ wpList P ops (Lend A w1) ls (a.put o.dst v) w1 ∧ A.tmps[d]? = some v := fun w1 h1 => by
        have h := H w1 h1
        unfold wpList at h
        rw [if_pos hw] at h
        obtain ⟨v, u', hrun, hk⟩ := light_wp hl h
        obtain ⟨_, m1, m2, m3⟩ := light_run hl hrun
        obtain ⟨e1, e2, e3⟩ := lights_end ls _ _ hall hk
        obtain rfl := m3 (by omega) (by omega)
        refine ⟨v, hrun, hk, ?_⟩
        rw [e3 d hdis, hdst]
        simp [Act.put, hdsz]
      obtain ⟨v, _, _, hAv⟩ := step w (Below.refl _ _)
      have step2 : ∀ w1, Below w.heap.size w w1 → (execOp a.eval o).run P w1 = .ok (.value v) w1 ∧ wpList P ops (Lend A w1) ls (a.put o.dst v) w1 := fun w1 h1 => by
        obtain ⟨v', h2, h3, h4⟩ := step w1 h1
        rw [hAv] at h4
        injection h4 with h4
        subst h4
        exact ⟨h2, h3⟩
      have := wpAnyM_lightsI hns is ls fuel (listed.setIfInBounds i true) (a.put o.dst v) w hf (by rw [put_size]; exact hrest) (fun w1 h1 => (step2 w1 h1).2) K
      exact wpAnyM_first hi (Region.noSelect_spec hns) (hQ v) _ listed a w (Region.free_spec hi hfree) (by simpa using hr) (.inl ⟨hw, fun w1 h1 => (step2 w1 h1).1⟩) this
    | false =>
      have := wpAnyM_lightsI hns is ls fuel (listed.setIfInBounds i true) (a.put o.dst undef) w hf (by rw [put_size]; exact hrest) (fun w1 h1 => by
        have h := H w1 h1
        unfold wpList at h
        rw [if_neg (by rw [hw]; simp)] at h
        exact h) K
      exact wpAnyM_first hi (Region.noSelect_spec hns) (hQ undef) _ listed a w (Region.free_spec hi hfree) (by simpa using hr) (.inr ⟨hw, rfl⟩) this
def pickI : List Bool → Nat → List Nat
  | [], _ => []
  | true :: m, k => k :: pickI m (k + 1)
  | false :: m, k => pickI m (k + 1)
def pickL : List Bool → List Oper → List Oper
  | true :: m, o :: l => o :: pickL m l
  | false :: m, _ :: l => pickL m l
  | _, _ => []
theorem sel_pick : ∀ (m : List Bool) (l : List Oper) (k : Nat), m.length ≤ l.length → (∀ j, l[j]? = ops[k + j]?) → Sel ops (pickI m k) (pickL m l)
  | [], [], _, _, _ => trivial
  | [], _ :: _, _, _, _ => trivial
  | _ :: _, [], _, h, _ => by simp at h
  | b :: m, o :: l, k, h, hj => by
    have h0 : ops[k]? = some o := by simpa using (hj 0).symm
    have ih := sel_pick m l (k + 1) (by simpa using h) (fun j => by have := hj (j + 1); simpa [Nat.add_assoc, Nat.add_comm 1 j] using this)
    cases b with
    | true => exact ⟨h0, ih⟩
    | false => exact ih

/-- A batch of lights, by a mask over the region's operations. -/
theorem wpAnyM_lights (m : List Bool) (sz : Nat) {l : List Oper} {a : Act} (A : Act) {w : World} {f : Nat} {listed : Array Bool} (hm : (m.length ≤ l.length ∧ Region.noSelect l.toArray = true ∧ (pickI m 0).length ≤ f ∧ lightsOk md l.toArray sz listed (pickI m 0) (pickL m l) = true)) (hsz : a.tmps.size = sz)
    (H : ∀ w1, Below w.heap.size w w1 → wpList P l.toArray (Lend A w1) (pickL m l) a w1) (K : wpAnyM P md l.toArray (NoPanic Q) (f - (pickI m 0).length) (listAll listed (pickI m 0)) A w) : wpAnyM P md l.toArray (NoPanic Q) f listed a w := by
  have e : f = (f - (pickI m 0).length) + (pickI m 0).length := by omega
  rw [e]
  subst hsz
  exact wpAnyM_lightsI hm.2.1 (pickI m 0) (pickL m l) _ listed a w (sel_pick m l 0 hm.1 (fun j => by simp)) hm.2.2.2 H K
/-- One operation in a list of its own. -/
theorem one_op {i : Nat} {o : Oper} (hi : ops[i]? = some o) {a : Act} {w : World} {K : Act → World → Prop} (h : wpList P ops (fun e a' w' => e = .normal ∧ K a' w') [o] a w) : wpOp P ops Q i K a w := by
  unfold wpList at h
  unfold wpOp
  simp only [hi]
  split
  · rename_i hw
    rw [if_pos hw] at h
    rcases h with h | ⟨_, _, _, h, _⟩
    · refine .inl ?_
      unfold Oper.wp at *
      generalize (execOp a.eval o).run P w = r at *
      cases r with
      | ok n w' =>
        cases n <;> simp only [Oper.upon] at h ⊢ <;> first | exact h.2 | skip
        case enter f args =>
          refine Calls.mono h fun e w'' he => ?_
          cases e with
          | returned u => exact he.2
          | panicked c => cases he.1
          | outgrown => obtain ⟨_, _, h, _⟩ := he; cases h
        case row row args => exact Rows.mono h fun u w'' he => he.2
      | halt x w' =>
        cases x <;> simp only [Oper.upon] at h ⊢
        case panic u => cases h.1
    · cases h
  · rename_i hw
    rw [if_neg hw] at h
    exact h.2

/-- A call when it alone may come up. -/
theorem wpAnyM_call (m : List Bool) (i : Nat) {o : Oper} {l : List Oper} {a : Act} {w : World} {f : Nat} {listed : Array Bool}
    (hr : (0 < f ∧ Region.ready md l.toArray listed = [i] ∧ pickL m l = [o] ∧ l.toArray[i]? = some o))
    (H : ∀ w1, Below w.heap.size w w1 → wpList P l.toArray (fun e a' w' => e = .normal ∧ Below w1.heap.size w1 w' ∧ wpAnyM P md l.toArray (NoPanic Q) (f - 1) (listed.setIfInBounds i true) a' w') (pickL m l) a w1) :
    wpAnyM P md l.toArray (NoPanic Q) f listed a w := by
  obtain ⟨hf, hr, hp, hi⟩ := hr
  obtain ⟨f, rfl⟩ : ∃ g, f = g + 1 := ⟨f - 1, by omega⟩
  intro w1 h1
  refine ⟨fun h0 => (by rw [hr] at h0; cases h0), fun j hj => ?_⟩
  rw [hr] at hj
  obtain rfl : j = i := by simpa using hj
  have h := H w1 h1
  rw [hp] at h
  exact one_op hi h
end
end Go.Proofs.Ythngkojbokknfaa
/- Calls that give the same in every grown world may be taken first; two calls that are ready at once, in one way. -/
namespace Go.Proofs.Ythngkojbokknfaa
open Go Go.RowKit
section
variable {P : Program} {ops : Array Oper} {Q : Exit → Act → World → Prop} {md : Region.Mode}

/-- It gives v, and only makes memory. -/
def Gives (P : Program) (v : Value) (w1 : World) : Result Next → Prop
  | .ok (.value u) w' => u = v ∧ Below w1.heap.size w1 w'
  | .ok (.enter f args) w' => Calls P f args w' fun e w'' => e = .returned v ∧ Below w1.heap.size w1 w''
  | .ok .skip w' => undef = v ∧ Below w1.heap.size w1 w'
  | .ok (.row row args) w' => Rows P row args w' fun u w'' => u = v ∧ Below w1.heap.size w1 w''
  | _ => False
/-- .. in every world grown from w. -/
def GivesIf (P : Program) (ops : Array Oper) (o : Oper) (v : Value) (a : Act) (w : World) : Prop :=
  Region.wanted o (yielded ops a.tmps) = true ∧ ∀ w1, Below w.heap.size w w1 → Gives P v w1 ((execOp a.eval o).run P w1)
theorem GivesIf.grow {oi : Oper} {v : Value} {a : Act} {w w' : World} (h : GivesIf P ops oi v a w) (hb : Below w.heap.size w w') : GivesIf P ops oi v a w' :=
  ⟨h.1, fun W hW => h.2 W (bTr hb hW)⟩
theorem GivesIf.of_same {o : Oper} {v : Value} {a a' : Act} {w : World} (hy : GivesIf P ops o v a w) (he : execOp a'.eval o = execOp a.eval o)
    (hw : Region.wanted o (yielded ops a'.tmps) = Region.wanted o (yielded ops a.tmps)) : GivesIf P ops o v a' w := by
  unfold GivesIf at *
  rw [he, hw]
  exact hy
theorem GivesIf.wpOp {i : Nat} {o : Oper} {v : Value} {a : Act} {w w1 : World} (hi : ops[i]? = some o) (hy : GivesIf P ops o v a w) (h1 : Below w.heap.size w w1)
    {K : Act → World → Prop} (h : ∀ w', Below w1.heap.size w1 w' → K (a.put o.dst v) w') : wpOp P ops Q i K a w1 := by
  unfold Go.wpOp
  simp only [hi]
  rw [if_pos hy.1]
  refine .inl ?_
  have hg := hy.2 w1 h1
  unfold Oper.wp
  generalize (execOp a.eval o).run P w1 = r at *
  cases r with
  | ok n w' =>
    cases n <;> simp only [Gives] at hg <;> simp only [Oper.upon]
    case value u => obtain ⟨rfl, hb⟩ := hg; exact h _ hb
    case enter f args =>
      refine Calls.mono hg fun e w'' he => ?_
      obtain ⟨rfl, hb⟩ := he
      exact h _ hb
    case skip => obtain ⟨rfl, hb⟩ := hg; exact h _ hb
    case row row args =>
      refine Rows.mono hg fun u w'' he => ?_
      obtain ⟨rfl, hb⟩ := he
      exact h _ hb
  | halt x w' => exact hg.elim

theorem wpOp_putG {j : Nat} {oi oj : Oper} {v : Value} {w0 : World} (hj : ops[j]? = some oj) (hap : oi.apart ops oj = true)
    (hsi : ∀ cs b, oi.op ≠ .select cs b) (hsj : ∀ cs b, oj.op ≠ .select cs b)
    (hQ : ∀ c a w, Q (.panic c) (a.put oi.dst v) w → Q (.panic c) a w) {K : Act → World → Prop} {a : Act} {w : World}
    (hy : GivesIf P ops oi v a w0) (h : wpOp P ops Q j K (a.put oi.dst v) w) :
    wpOp P ops Q j (fun a' w' => GivesIf P ops oi v a' w0 ∧ K (a'.put oi.dst v) w') a w := by
  obtain ⟨h1, h2, h3⟩ := Oper.apart_spec hap
  have keep : ∀ (a : Act), GivesIf P ops oi v a w0 → ∀ u, GivesIf P ops oi v (a.put oj.dst u) w0 := fun a hy u =>
    hy.of_same (execOp_put oi hsi a oj.dst u h3) (wanted_put oi a oj.dst u h3)
  have keepD : ∀ d, GivesIf P ops oi v { a with defers := d :: a.defers } w0 := fun d => hy.of_same rfl rfl
  unfold wpOp at *
  simp only [hj] at *
  rw [wanted_put oj a oi.dst v h1] at h
  split
  · rename_i hw
    simp only [hw, if_true] at h
    rcases h with h | ⟨hasks, hlets⟩
    case inr => exact .inr ⟨by unfold Oper.asks at *; rw [execOp_put oj hsj a oi.dst v h1] at hasks; exact hasks, hlets⟩
    refine .inl ?_
    unfold Oper.wp at *
    rw [execOp_put oj hsj a oi.dst v h1] at h
    generalize (execOp a.eval oj).run P w = r at *
    cases r with
    | ok n w' =>
      cases n <;> simp only [Oper.upon] at h ⊢
      case value u => exact ⟨keep a hy u, by rw [← Act.put_comm a v u h2]; exact h⟩
      case skip => exact ⟨keep a hy _, by rw [← Act.put_comm a v undef h2]; exact h⟩
      case defer d =>
        refine ⟨keep _ (keepD d) _, ?_⟩
        rw [← Act.put_comm _ v undef h2, ← Act.put_defers]
        exact h
      case enter f args =>
        refine Calls.mono h fun e w'' he => ?_
        cases e with
        | returned u => exact ⟨keep a hy u, by rw [← Act.put_comm a v u h2]; exact he⟩
        | panicked c => exact hQ _ _ _ he
        | outgrown => exact he
      case row row args => exact Rows.mono h fun u w'' he => ⟨keep a hy u, by rw [← Act.put_comm a v u h2]; exact he⟩
    | halt x w' =>
      cases x <;> simp only [Oper.upon] at h ⊢
      case panic u => exact hQ _ _ _ h
  · rename_i hw
    simp only [hw] at h
    exact ⟨keep a hy _, by rw [← Act.put_comm a v undef h2]; exact h⟩

theorem wpAnyM_firstG {i : Nat} {oi : Oper} {v : Value} (hi : ops[i]? = some oi) (hsel : ∀ (j : Nat) (o : Oper) cs b, ops[j]? = some o → o.op ≠ .select cs b)
    (hQ : ∀ c a w, Q (.panic c) (a.put oi.dst v) w → Q (.panic c) a w) :
    ∀ (fuel : Nat) (listed : Array Bool) (a : Act) (w : World),
      (∀ j oj, ops[j]? = some oj → j ≠ i → listed.getD j true = false → (∀ e ∈ oj.after, Region.binds md e = true → e.on ≠ i) → oi.apart ops oj = true) →
      i ∈ Region.ready md ops listed → GivesIf P ops oi v a w →
      wpAnyM P md ops Q fuel (listed.setIfInBounds i true) (a.put oi.dst v) w → wpAnyM P md ops Q (fuel + 1) listed a w := by
  intro fuel
  induction fuel with
  | zero =>
    intro listed a w hfree hr hy H w1 h1
    refine ⟨fun h => (by rw [h] at hr; cases hr), fun j hj => ?_⟩
    by_cases hji : j = i
    · subst hji; exact hy.wpOp hi h1 fun w' hw' => ⟨hw', H.mono (bTr h1 hw')⟩
    · have := ready_mono hj hji
      rw [H.1] at this
      cases this
  | succ fuel ih =>
    intro listed a w hfree hr hy H w1 hw1
    refine ⟨fun h => (by rw [h] at hr; cases hr), fun j hj => ?_⟩
    by_cases hji : j = i
    · subst hji; exact hy.wpOp hi hw1 fun w' hw' => ⟨hw', H.mono (bTr hw1 hw')⟩
    · have h1 := (H w1 hw1).2 j (ready_mono hj hji)
      obtain ⟨hjun, oj, hoj, hall⟩ := mem_ready.1 hj
      have hnot : ∀ e ∈ oj.after, Region.binds md e = true → e.on ≠ i := fun e he hb heq => by
        have h1 := hall e he hb
        have h0 := (mem_ready.1 hr).1
        rw [heq] at h1
        rcases Nat.lt_or_ge i listed.size with h' | h'
        · simp [h'] at h0 h1; rw [h0] at h1; cases h1
        · simp [Array.getElem?_eq_none h'] at h1
      have h2 := wpOp_putG hoj (hfree j oj hoj hji hjun hnot) (fun cs b => hsel i oi cs b hi) (fun cs b => hsel j oj cs b hoj) hQ (GivesIf.grow hy hw1) h1
      have hfree' : ∀ k ok, ops[k]? = some ok → k ≠ i → (listed.setIfInBounds j true).getD k true = false →
          (∀ e ∈ ok.after, Region.binds md e = true → e.on ≠ i) → oi.apart ops ok = true := fun k ok hk hki hun hno => by
        refine hfree k ok hk hki ?_ hno
        by_cases hjk : j = k
        · subst hjk; exact hjun
        · rw [getD_set_ne true hjk] at hun; exact hun
      refine wpOp_mono (fun a' w' h3 => ⟨h3.2.1, ih (listed.setIfInBounds j true) a' w' hfree' (ready_mono hr (Ne.symm hji)) (GivesIf.grow h3.1 h3.2.1) ?_⟩) h2
      rw [Array.setIfInBounds_comm _ _ hji]
      exact h3.2.2

/-- A call that gives the same in every grown world: first, whoever else is ready. -/
theorem wpAnyM_same (m : List Bool) (i sz d : Nat) (v : Value) {o : Oper} {l : List Oper} {a : Act} {w : World} {f : Nat} {listed : Array Bool}
    (hr : (0 < f ∧ Region.noSelect l.toArray = true ∧ (Region.ready md l.toArray listed).contains i = true ∧ Region.free md l.toArray listed i = true ∧ pickL m l = [o] ∧ l.toArray[i]? = some o ∧ o.dst = some d ∧ d < sz))
    (hsz : a.tmps.size = sz) (hw : Region.wanted o (yielded l.toArray a.tmps) = true)
    (H : ∀ w1, Below w.heap.size w w1 → wpList P l.toArray (fun e a' w' => e = .normal ∧ Below w1.heap.size w1 w' ∧ a'.tmps[d]? = some v ∧ a'.defers = a.defers) (pickL m l) a w1)
    (K : wpAnyM P md l.toArray (NoPanic Q) (f - 1) (listed.setIfInBounds i true) (a.put (some d) v) w) : wpAnyM P md l.toArray (NoPanic Q) f listed a w := by
  obtain ⟨hf, hns, hr, hfree, hp, hi, hd, hdsz⟩ := hr
  obtain ⟨f, rfl⟩ : ∃ g, f = g + 1 := ⟨f - 1, by omega⟩
  subst hsz
  have hput : ∀ u, (a.put o.dst u).tmps[d]? = some v → u = v := fun u h => by
    rw [hd] at h
    simpa [Act.put, hdsz] using h
  have hg : GivesIf P l.toArray o v a w := by
    refine ⟨hw, fun w1 h1 => ?_⟩
    have h := H w1 h1
    rw [hp] at h
    unfold wpList at h
    rw [if_pos hw] at h
    rcases h with h | ⟨_, _, _, h, _⟩
    · unfold Oper.wp at h
      generalize (execOp a.eval o).run P w1 = r at *
      cases r with
      | ok n w' =>
        cases n <;> simp only [Oper.upon] at h <;> simp only [Gives]
        case value u => exact ⟨hput u h.2.2.1, h.2.1⟩
        case skip => exact ⟨hput undef h.2.2.1, h.2.1⟩
        case row row args => exact Rows.mono h fun u w'' he => ⟨hput u he.2.2.1, he.2.1⟩
        case defer dd =>
          have := congrArg List.length h.2.2.2
          simp [Act.put, hd] at this
        case enter f args =>
          refine Calls.mono h fun e w'' he => ?_
          cases e with
          | returned u => exact ⟨by rw [hput u he.2.2.1], he.2.1⟩
          | panicked c => cases he.1
          | outgrown => obtain ⟨_, _, h, _⟩ := he; cases h
      | halt x w' =>
        cases x <;> simp only [Oper.upon] at h
        case panic u => cases h.1
    · cases h
  have K' : wpAnyM P md l.toArray (NoPanic Q) f (listed.setIfInBounds i true) (a.put o.dst v) w := by rw [hd]; exact K
  exact wpAnyM_firstG hi (Region.noSelect_spec hns) (fun c a w h => h) f listed a w (Region.free_spec hi hfree) (by simpa using hr) hg K'
end
end Go.Proofs.Ythngkojbokknfaa
/- The begin of a region that draws its order, walked in whatever grown world. -/
namespace Go.Proofs.Ythngkojbokknfaa
open Go Go.RowKit
section
variable {P : Program} {Q : Exit → Act → World → Prop}
/-- A region, in whatever order, with the world growing meanwhile; it does not panic. -/
theorem region_calm {id : Nat} {l : List Oper} {a : Act} {w : World} (n : Nat) (hm : (P.follows .mixedOrders = true ∧ l.length = n)) 
    (h : wpAnyM P .any l.toArray (NoPanic Q) n (Array.replicate n false) a w) : (Code.region id l.toArray true).wp P Q a w := by
  obtain ⟨hm, rfl⟩ := hm
  refine wp_region_noPanic (wp_region_any hm ?_)
  exact (h.mono (Below.refl w.heap.size w).drew).any
theorem region_calmB {id : Nat} {l : List Oper} {a : Act} {w : World} (n : Nat) (hm : (P.follows .mixedOrders = true ∧ l.length = n))
    (h : Below w.heap.size w w → wpAnyM P .any l.toArray (NoPanic Q) n (Array.replicate n false) a w) : (Code.region id l.toArray true).wp P Q a w :=
  region_calm n hm (h (Below.refl _ _))
theorem Lend.ok {A : Act} {w : World} : Lend A w .normal A w := ⟨rfl, rfl, rfl⟩
/-- All has come up. -/
theorem region_calm_end {l : List Oper} {a : Act} {w : World} {f : Nat} {listed : Array Bool} {md : Region.Mode} (hr : Region.ready md l.toArray listed = [])
    (h : ∀ w1, Below w.heap.size w w1 → Q .normal a w1) : wpAnyM P md l.toArray (NoPanic Q) f listed a w :=
  wpAnyM_done (Q := NoPanic Q) hr h f
end
end Go.Proofs.Ythngkojbokknfaa
/- The walks of entries and states: which may be. -/
namespace Go.Proofs.Ythngkojbokknfaa
open Go Go.RowKit

theorem number_any (n : Int) (w : World) : Calls Try.prog 69 #[.int .i64 n] w fun e w' => e = .returned (.bool (numB n)) ∧ w = w' := by
  have H := Lib.hid (show numB n = decide (0 ≤ n ∧ n ≤ 1073741824) from rfl)
  go_enter Try.func69, Try.ntmps69
  go_wp2
  all_goals (go_ret; exact ⟨ret_bool (by rw [H.out]; simp; omega), rfl⟩)
theorem numberR_any (n : Int) (w : World) : Calls Try.prog 48 #[.int .i64 n] w fun e w' => e = .returned (.bool (numB n)) ∧ w = w' := by
  have H := Lib.hid (show numB n = decide (0 ≤ n ∧ n ≤ 1073741824) from rfl)
  go_enter Try.func48, Try.ntmps48
  go_wp2
  all_goals (go_ret; exact ⟨ret_bool (by rw [H.out]; simp; omega), rfl⟩)
theorem firstE_any (w : World) : Calls Try.prog 58 #[] w fun e w' => e = .returned firstS.v ∧ Below w.heap.size w w' := by
  go_enter Try.func58, Try.ntmps58
  go_wp2
  go_returns
  exact ⟨rfl, (Below.refl _ _).alloc (Nat.le_refl _) _⟩
theorem firstR_any (w : World) : Calls Try.prog 49 #[] w fun e w' => e = .returned firstS.v ∧ Below w.heap.size w w' := by
  go_enter Try.func49, Try.ntmps49
  go_wp2
  go_returns
  exact ⟨rfl, (Below.refl _ _).alloc (Nat.le_refl _) _⟩

/-- What kinds do, as the map has it. -/
def deedsL : List (Int × Value) := [(0, .func (.func 70) #[] #[]), (1, .func (.func 71) #[] #[]), (2, .func (.func 72) #[] #[]), (3, .func (.func 73) #[] #[]), (4, .func (.func 74) #[] #[])]
theorem deeds_any (w : World) : Calls Try.prog 63 #[] w fun e w' => ∃ r, e = .returned (.map (some r)) ∧ MapIs w' r deedsL ∧ Below w.heap.size w w' := by
  have hmm := @run_makeMap Try.prog
  go_enter Try.func63, Try.ntmps63
  go_wp2_with (refine list_insert rfl _ _ _ rfl Try.underlying76 Try.underlying3 (MapIs.made _) rfl _ rfl rfl ?_)
  intro w1 m1 k1
  refine list_insert rfl _ _ _ rfl Try.underlying76 Try.underlying3 m1 rfl _ rfl rfl ?_
  intro w2 m2 k2
  refine list_insert rfl _ _ _ rfl Try.underlying76 Try.underlying3 m2 rfl _ rfl rfl ?_
  intro w3 m3 k3
  refine list_insert rfl _ _ _ rfl Try.underlying76 Try.underlying3 m3 rfl _ rfl rfl ?_
  intro w4 m4 k4
  refine list_insert rfl _ _ _ rfl Try.underlying76 Try.underlying3 m4 rfl _ rfl rfl ?_
  intro w5 m5 k5
  go_wp2
  go_returns
  have hk := (((k1.trans (k2.sub fun _ _ h => h)).trans (k3.sub fun _ _ h => h)).trans (k4.sub fun _ _ h => h)).trans (k5.sub fun _ _ h => h)
  exact ⟨w.heap.size, rfl, m5, below_keep ((Below.refl _ _).alloc (Nat.le_refl _) _) hk (by simp) fun k hk => by omega⟩

theorem zero_fn (w : World) : (zeroValue 75).run Try.prog w = .ok .nilFunc w := by kernel_rfl
theorem look_deeds {w : World} {r : Nat} (h : MapIs w r deedsL) (k : Int) (ok : Bool) :
    (Instr.lookup 76 (.map (some r)) (.int .i64 k) ok).run Try.prog w = .ok (if ok then .tuple #[(mget deedsL k).getD .nilFunc, .bool (mget deedsL k).isSome] else (mget deedsL k).getD .nilFunc) w := run_lookup_map (P := Try.prog) (t := 76) Try.underlying76 Try.underlying3 zero_fn h k ok
theorem deeds_some (k : Int) : (mget deedsL k).isSome = decide (0 ≤ k ∧ k ≤ 4) := by
  unfold deedsL
  simp only [mget]
  repeat' split
  all_goals simp
  all_goals omega

set_option maxHeartbeats 1000000 in
theorem right_any (e : En) (w : World) : Calls Try.prog 61 #[e.v] w fun e' w' => e' = .returned (.bool (rightB e)) ∧ Below w.heap.size w w' := by
  have Hr := Lib.hid (show rightB e = decide (0 ≤ e.kind ∧ e.kind ≤ 4 ∧ 0 < e.term ∧ e.term ≤ 1073741824 ∧ 0 ≤ e.value ∧ e.value ≤ 1073741824 ∧ (e.value = 0 ∨ e.kind = 1)) from rfl)
  obtain ⟨t, k, v⟩ := e
  dsimp only [En.v]
  go_enter Try.func61, Try.ntmps61
  go_wp2
  obtain ⟨w1, hw1⟩ : ∃ w1, w1 = w.alloc (.cells #[.int .i64 t, .int .i64 k, .int .i64 v] 50) := ⟨_, rfl⟩
  have c0 : w1.cell? ⟨w.heap.size, 0, none⟩ = some (.int .i64 t) := by subst hw1; simp
  have c1 : w1.cell? ⟨w.heap.size, 1, none⟩ = some (.int .i64 k) := by subst hw1; simp
  have c2 : w1.cell? ⟨w.heap.size, 2, none⟩ = some (.int .i64 v) := by subst hw1; simp
  have hB1 : Below w.heap.size w w1 := by subst hw1; exact (Below.refl _ _).alloc (Nat.le_refl _) _
  have hb : w.heap.size < w1.heap.size := by subst hw1; simp
  rw [← hw1]
  clear hw1
  refine region_calmB 9 ⟨by kernel_rfl, by kernel_rfl⟩ (fun HB => ?_)
  refine' wpAnyM_lights [false, true, true] 38 _ (by decide +kernel) rfl (fun W hW => ?_) ?_
  rotate_left
  · obtain ⟨hcW, hfW⟩ := bCells (bTr HB hW)
    dsimp only [pickL]
    go_wp2
    exact Lend.ok
  refine wpAnyM_call [true] 0 ⟨by decide, by kernel_rfl, rfl, rfl⟩ (fun W hW => ?_)
  dsimp only [pickL]
  go_wp2_with fail
  refine (deeds_any _).mono ?_
  rintro e w2 ⟨r, rfl, hm, hB⟩
  go_wp2
  replace HB := bTr (bTr HB hW) hB
  refine wpAnyM_call [false, false, false, true] 3 ⟨by decide, by kernel_rfl, rfl, rfl⟩ (fun W hW => ?_)
  have hl := look_deeds (hm.below hW hm.lt) k true
  simp only [if_true, deeds_some] at hl
  dsimp only [pickL]
  go_wp2_with fail
  go_wp2
  try (refine ⟨Below.refl _ _, ?_⟩)
  replace HB := bTr HB hW
  refine' wpAnyM_lights [false, false, false, false, true, true, true, true, true] 38 _ (by decide +kernel) rfl (fun W hW => ?_) ?_
  rotate_left
  · obtain ⟨hcW, hfW⟩ := bCells (bTr HB hW)
    dsimp only [pickL]
    go_wp2
    exact Lend.ok
  refine region_calm_end (by kernel_rfl) (fun W hW => ?_)
  replace HB := bTr HB hW
  replace c0 := ((bCells HB).1 _ _ hb).trans c0
  replace c1 := ((bCells HB).1 _ _ hb).trans c1
  replace c2 := ((bCells HB).1 _ _ hb).trans c2
  replace HB := bTr hB1 HB
  clear hB1 hB hm
  go_wp2_with (go_at_call 69; refine (number_any _ _).mono ?_; rintro e w' ⟨rfl, rfl⟩)
  all_goals
    go_ret
    refine ⟨ret_bool ?_, HB⟩
    rw [Hr.out, Bool.eq_iff_iff]
    clear HB c0 c1 c2 hb hl hW Hr
    simp [numB] at *
    try omega
end Go.Proofs.Ythngkojbokknfaa
/- '==' of two states, of two entries. -/
namespace Go.Proofs.Ythngkojbokknfaa
open Go Go.RowKit

theorem run_eq_state (w : World) (a b : St) : (Op.equalIn 10000 23 a.v b.v).run Try.prog w = .ok (decide (a = b)) w := by
  obtain ⟨a1, a2, a3, a4, a5⟩ := a
  obtain ⟨b1, b2, b3, b4, b5⟩ := b
  dsimp only [St.v, En.v]
  by_cases h1 : a1 = b1 <;> by_cases h2 : a2 = b2 <;> by_cases h3 : a3 = b3 <;> by_cases h4 : a4 = b4 <;> by_cases h5 : a5 = b5 <;>
  go_simp
theorem run_eq_entry (w : World) (a b : En) : (Op.equalIn 10000 50 a.v b.v).run Try.prog w = .ok (decide (a = b)) w := by
  obtain ⟨a1, a2, a3⟩ := a
  obtain ⟨b1, b2, b3⟩ := b
  dsimp only [St.v, En.v]
  by_cases h1 : a1 = b1 <;> by_cases h2 : a2 = b2 <;> by_cases h3 : a3 = b3 <;>
  go_simp
end Go.Proofs.Ythngkojbokknfaa
/- The walks of entries and states: which may be. -/
namespace Go.Proofs.Ythngkojbokknfaa
open Go Go.RowKit

theorem rightR_any (e : En) (w : World) : Calls Try.prog 38 #[e.v] w fun e' w' => e' = .returned (.bool (rightB e)) ∧ Below w.heap.size w w' := by
  have Hr := Lib.hid (show rightB e = decide (0 ≤ e.kind ∧ e.kind ≤ 4 ∧ 0 < e.term ∧ e.term ≤ 1073741824 ∧ 0 ≤ e.value ∧ e.value ≤ 1073741824 ∧ (e.value = 0 ∨ e.kind = 1)) from rfl)
  obtain ⟨t, k, v⟩ := e
  dsimp only [En.v]
  go_enter Try.func38, Try.ntmps38
  go_wp2_with (go_at_call 48; refine (numberR_any _ _).mono ?_; rintro e w' ⟨rfl, rfl⟩)
  all_goals
    go_ret
    refine ⟨ret_bool ?_, (Below.refl _ _).alloc (Nat.le_refl _) _⟩
    rw [Hr.out, Bool.eq_iff_iff]
    clear Hr
    simp [numB] at *
    try omega
theorem eqS (a1 a2 a3 a4 : Int) (a5 : Bool) (b1 b2 b3 b4 : Int) (b5 : Bool) (w : World) : (Op.equalIn 10000 23 (.agg #[.int .i64 a1, .int .i64 a2, .int .i64 a3, .int .i64 a4, .bool a5]) (.agg #[.int .i64 b1, .int .i64 b2, .int .i64 b3, .int .i64 b4, .bool b5])).run Try.prog w = .ok (decide ((⟨a1, a2, a3, a4, a5⟩ : St) = ⟨b1, b2, b3, b4, b5⟩)) w := run_eq_state w ⟨a1, a2, a3, a4, a5⟩ ⟨b1, b2, b3, b4, b5⟩

set_option maxHeartbeats 1000000 in
theorem fine_any (s : St) (w : World) : Calls Try.prog 62 #[s.v] w fun e' w' => e' = .returned (.bool (fineB s)) ∧ Below w.heap.size w w' := by
  have Hr := Lib.hid (fineB_iff s)
  generalize fineB s = fb at *
  by_cases h0 : s.index = 0
  · obtain ⟨a1, a2, a3, a4, a5⟩ := s
    dsimp only at h0
    subst h0
    dsimp only [St.v]
    go_enter Try.func62, Try.ntmps62
    go_wp2
    refine region_calmB 4 ⟨by kernel_rfl, by kernel_rfl⟩ (fun HB => ?_)
    refine' wpAnyM_lights [true] 64 _ (by decide +kernel) rfl (fun W hW => ?_) ?_
    rotate_left
    · obtain ⟨hcW, hfW⟩ := bCells (bTr HB hW)
      dsimp only [pickL]
      go_wp2
      exact Lend.ok
    refine wpAnyM_call [false, true] 1 ⟨by decide, by kernel_rfl, rfl, rfl⟩ (fun W hW => ?_)
    dsimp only [pickL]
    go_wp2_with fail
    refine (firstE_any _).mono ?_
    dsimp only [firstS, St.v]
    rintro e w2 ⟨rfl, hB⟩
    go_wp2
    replace HB := bTr (bTr HB hW) hB
    refine' wpAnyM_lights [false, false, true, true] 64 _ (by decide +kernel) rfl (fun W hW => ?_) ?_
    rotate_left
    · obtain ⟨hcW, hfW⟩ := bCells (bTr HB hW)
      have he := eqS
      dsimp only [pickL]
      go_wp2
      exact Lend.ok
    refine region_calm_end (by kernel_rfl) (fun W hW => ?_)
    replace HB := bTr HB hW
    go_wp2
    go_ret
    refine ⟨ret_bool ?_, bTr ((Below.refl _ _).alloc (Nat.le_refl _) _) HB⟩
    rw [Bool.eq_iff_iff, Hr.out]
    clear Hr HB hB
    unfold FineP firstS
    simp at *
    try (cases a5 <;> simp <;> try omega)
  · obtain ⟨a1, a2, a3, a4, a5⟩ := s
    dsimp only at h0
    dsimp only [St.v]
    go_enter Try.func62, Try.ntmps62
    go_wp2_with (go_at_call 69; refine (number_any _ _).mono ?_; rintro e w' ⟨rfl, rfl⟩)
    all_goals
      go_ret
      refine ⟨ret_bool ?_, (Below.refl _ _).alloc (Nat.le_refl _) _⟩
      rw [Bool.eq_iff_iff, Hr.out]
      clear Hr
      unfold FineP firstS
      simp [numB] at *
      try (cases a5 <;> simp at * <;> omega)

end Go.Proofs.Ythngkojbokknfaa
/- The walks of entries and states: which may be, by the reference. -/
namespace Go.Proofs.Ythngkojbokknfaa
open Go Go.RowKit

set_option maxHeartbeats 4000000 in
theorem fineR_any (s : St) (w : World) : Calls Try.prog 19 #[s.v] w fun e' w' => e' = .returned (.bool (fineB s)) ∧ Below w.heap.size w w' := by
  have Hr := Lib.hid (fineB_iff s)
  generalize fineB s = fb at *
  obtain ⟨a1, a2, a3, a4, a5⟩ := s
  dsimp only [St.v]
  cases n1 : numB a1
  · go_enter Try.func19, Try.ntmps19
    go_wp2_with (go_at_call 48; refine (numberR_any _ _).mono ?_; rintro e w' ⟨rfl, rfl⟩)
    go_ret
    refine ⟨ret_bool ?_, (Below.refl _ _).alloc (Nat.le_refl _) _⟩
    rw [Bool.eq_iff_iff, Hr.out]
    clear Hr
    unfold FineP firstS
    simp [numB] at *
    try omega
  cases n2 : numB a2
  · go_enter Try.func19, Try.ntmps19
    go_wp2_with (go_at_call 48; refine (numberR_any _ _).mono ?_; rintro e w' ⟨rfl, rfl⟩)
    go_ret
    refine ⟨ret_bool ?_, (Below.refl _ _).alloc (Nat.le_refl _) _⟩
    rw [Bool.eq_iff_iff, Hr.out]
    clear Hr
    unfold FineP firstS
    simp [numB] at *
    try omega
  cases n3 : numB a3
  · go_enter Try.func19, Try.ntmps19
    go_wp2_with (go_at_call 48; refine (numberR_any _ _).mono ?_; rintro e w' ⟨rfl, rfl⟩)
    go_ret
    refine ⟨ret_bool ?_, (Below.refl _ _).alloc (Nat.le_refl _) _⟩
    rw [Bool.eq_iff_iff, Hr.out]
    clear Hr
    unfold FineP firstS
    simp [numB] at *
    try omega
  by_cases h1 : a1 = 0 <;> by_cases h2 : a2 = 0
  · subst h1; subst h2
    by_cases l1 : a4 = 1
    · subst l1
      cases a5
      · go_enter Try.func19, Try.ntmps19
        go_wp2_with (go_at_call 48; refine (numberR_any _ _).mono ?_; rintro e w' ⟨rfl, rfl⟩)
        refine region_calmB 9 ⟨by kernel_rfl, by kernel_rfl⟩ (fun HB => ?_)
        refine' wpAnyM_lights [true, true, true, true, true] 55 _ (by decide +kernel) rfl (fun W hW => ?_) ?_
        rotate_left
        · obtain ⟨hcW, hfW⟩ := bCells (bTr HB hW)
          dsimp only [pickL]
          go_wp2
          exact Lend.ok
        refine wpAnyM_call [false, false, false, false, false, true] 5 ⟨by decide, by kernel_rfl, rfl, rfl⟩ (fun W hW => ?_)
        dsimp only [pickL]
        go_wp2_with fail
        refine (firstR_any _).mono ?_
        dsimp only [firstS, St.v]
        rintro e w2 ⟨rfl, hB⟩
        go_wp2
        replace HB := bTr (bTr HB hW) hB
        refine' wpAnyM_lights [false, false, false, false, false, false, true, true, true] 55 _ (by decide +kernel) rfl (fun W hW => ?_) ?_
        rotate_left
        · obtain ⟨hcW, hfW⟩ := bCells (bTr HB hW)
          have he := eqS
          dsimp only [pickL]
          go_wp2
          exact Lend.ok
        refine region_calm_end (by kernel_rfl) (fun W hW => ?_)
        replace HB := bTr HB hW
        go_wp2
        go_ret
        refine ⟨ret_bool ?_, bTr ((Below.refl _ _).alloc (Nat.le_refl _) _) HB⟩
        rw [Bool.eq_iff_iff, Hr.out]
        clear Hr HB
        unfold FineP firstS
        simp [numB] at *
        try omega
      · go_enter Try.func19, Try.ntmps19
        go_wp2_with (go_at_call 48; refine (numberR_any _ _).mono ?_; rintro e w' ⟨rfl, rfl⟩)
        go_ret
        refine ⟨ret_bool ?_, (Below.refl _ _).alloc (Nat.le_refl _) _⟩
        rw [Bool.eq_iff_iff, Hr.out]
        clear Hr
        unfold FineP firstS
        simp [numB] at *
        try omega
    · by_cases l2 : a4 = 2
      · subst l2
        cases a5
        · go_enter Try.func19, Try.ntmps19
          go_wp2_with (go_at_call 48; refine (numberR_any _ _).mono ?_; rintro e w' ⟨rfl, rfl⟩)
          refine region_calmB 9 ⟨by kernel_rfl, by kernel_rfl⟩ (fun HB => ?_)
          refine' wpAnyM_lights [true, true, true, true, true] 55 _ (by decide +kernel) rfl (fun W hW => ?_) ?_
          rotate_left
          · obtain ⟨hcW, hfW⟩ := bCells (bTr HB hW)
            dsimp only [pickL]
            go_wp2
            exact Lend.ok
          refine wpAnyM_call [false, false, false, false, false, true] 5 ⟨by decide, by kernel_rfl, rfl, rfl⟩ (fun W hW => ?_)
          dsimp only [pickL]
          go_wp2_with fail
          refine (firstR_any _).mono ?_
          dsimp only [firstS, St.v]
          rintro e w2 ⟨rfl, hB⟩
          go_wp2
          replace HB := bTr (bTr HB hW) hB
          refine' wpAnyM_lights [false, false, false, false, false, false, true, true, true] 55 _ (by decide +kernel) rfl (fun W hW => ?_) ?_
          rotate_left
          · obtain ⟨hcW, hfW⟩ := bCells (bTr HB hW)
            have he := eqS
            dsimp only [pickL]
            go_wp2
            exact Lend.ok
          refine region_calm_end (by kernel_rfl) (fun W hW => ?_)
          replace HB := bTr HB hW
          go_wp2
          go_ret
          refine ⟨ret_bool ?_, bTr ((Below.refl _ _).alloc (Nat.le_refl _) _) HB⟩
          rw [Bool.eq_iff_iff, Hr.out]
          clear Hr HB
          unfold FineP firstS
          simp [numB] at *
          try omega
        · go_enter Try.func19, Try.ntmps19
          go_wp2_with (go_at_call 48; refine (numberR_any _ _).mono ?_; rintro e w' ⟨rfl, rfl⟩)
          refine region_calmB 9 ⟨by kernel_rfl, by kernel_rfl⟩ (fun HB => ?_)
          refine' wpAnyM_lights [true, true, true, true, true] 55 _ (by decide +kernel) rfl (fun W hW => ?_) ?_
          rotate_left
          · obtain ⟨hcW, hfW⟩ := bCells (bTr HB hW)
            dsimp only [pickL]
            go_wp2
            exact Lend.ok
          refine wpAnyM_call [false, false, false, false, false, true] 5 ⟨by decide, by kernel_rfl, rfl, rfl⟩ (fun W hW => ?_)
          dsimp only [pickL]
          go_wp2_with fail
          refine (firstR_any _).mono ?_
          dsimp only [firstS, St.v]
          rintro e w2 ⟨rfl, hB⟩
          go_wp2
          replace HB := bTr (bTr HB hW) hB
          refine' wpAnyM_lights [false, false, false, false, false, false, true, true, true] 55 _ (by decide +kernel) rfl (fun W hW => ?_) ?_
          rotate_left
          · obtain ⟨hcW, hfW⟩ := bCells (bTr HB hW)
            have he := eqS
            dsimp only [pickL]
            go_wp2
            exact Lend.ok
          refine region_calm_end (by kernel_rfl) (fun W hW => ?_)
          replace HB := bTr HB hW
          go_wp2
          go_ret
          refine ⟨ret_bool ?_, bTr ((Below.refl _ _).alloc (Nat.le_refl _) _) HB⟩
          rw [Bool.eq_iff_iff, Hr.out]
          clear Hr HB
          unfold FineP firstS
          simp [numB] at *
          try omega
      · go_enter Try.func19, Try.ntmps19
        go_wp2_with (go_at_call 48; refine (numberR_any _ _).mono ?_; rintro e w' ⟨rfl, rfl⟩)
        go_ret
        refine ⟨ret_bool ?_, (Below.refl _ _).alloc (Nat.le_refl _) _⟩
        rw [Bool.eq_iff_iff, Hr.out]
        clear Hr
        unfold FineP firstS
        simp [numB] at *
        try omega
  · subst h1
    go_enter Try.func19, Try.ntmps19
    go_wp2_with (go_at_call 48; refine (numberR_any _ _).mono ?_; rintro e w' ⟨rfl, rfl⟩)
    go_ret
    refine ⟨ret_bool ?_, (Below.refl _ _).alloc (Nat.le_refl _) _⟩
    rw [Bool.eq_iff_iff, Hr.out]
    clear Hr
    unfold FineP firstS
    simp [numB] at *
    try omega
  · subst h2
    go_enter Try.func19, Try.ntmps19
    go_wp2_with (go_at_call 48; refine (numberR_any _ _).mono ?_; rintro e w' ⟨rfl, rfl⟩)
    go_ret
    refine ⟨ret_bool ?_, (Below.refl _ _).alloc (Nat.le_refl _) _⟩
    rw [Bool.eq_iff_iff, Hr.out]
    clear Hr
    unfold FineP firstS
    simp [numB] at *
    try omega
  · have h0 : 0 < a1 := by simp [numB] at n1; omega
    have g1 : (a1 == 0) = false := by simpa using h1
    have g2 : (a2 == 0) = false := by simpa using h2
    by_cases l1 : a4 = 1
    · subst l1
      cases a5
      · go_enter Try.func19, Try.ntmps19
        go_wp2_with (go_at_call 48; refine (numberR_any _ _).mono ?_; rintro e w' ⟨rfl, rfl⟩)
        refine region_calmB 9 ⟨by kernel_rfl, by kernel_rfl⟩ (fun HB => ?_)
        refine' wpAnyM_lights [true, true, true, true, true] 55 _ (by decide +kernel) rfl (fun W hW => ?_) ?_
        rotate_left
        · obtain ⟨hcW, hfW⟩ := bCells (bTr HB hW)
          dsimp only [pickL]
          go_wp2
          exact Lend.ok
        refine wpAnyM_call [false, false, false, false, false, true] 5 ⟨by decide, by kernel_rfl, rfl, rfl⟩ (fun W hW => ?_)
        dsimp only [pickL]
        go_wp2_with fail
        go_wp2
        try (refine ⟨Below.refl _ _, ?_⟩)
        replace HB := bTr HB hW
        refine' wpAnyM_lights [false, false, false, false, false, false, true, true, true] 55 _ (by decide +kernel) rfl (fun W hW => ?_) ?_
        rotate_left
        · obtain ⟨hcW, hfW⟩ := bCells (bTr HB hW)
          dsimp only [pickL]
          go_wp2
          exact Lend.ok
        refine region_calm_end (by kernel_rfl) (fun W hW => ?_)
        replace HB := bTr HB hW
        go_wp2
        go_ret
        refine ⟨ret_bool ?_, bTr ((Below.refl _ _).alloc (Nat.le_refl _) _) HB⟩
        rw [Bool.eq_iff_iff, Hr.out]
        clear Hr HB
        unfold FineP firstS
        simp [numB] at *
        try omega
      · go_enter Try.func19, Try.ntmps19
        go_wp2_with (go_at_call 48; refine (numberR_any _ _).mono ?_; rintro e w' ⟨rfl, rfl⟩)
        go_ret
        refine ⟨ret_bool ?_, (Below.refl _ _).alloc (Nat.le_refl _) _⟩
        rw [Bool.eq_iff_iff, Hr.out]
        clear Hr
        unfold FineP firstS
        simp [numB] at *
        try omega
    · by_cases l2 : a4 = 2
      · subst l2
        cases a5
        · go_enter Try.func19, Try.ntmps19
          go_wp2_with (go_at_call 48; refine (numberR_any _ _).mono ?_; rintro e w' ⟨rfl, rfl⟩)
          refine region_calmB 9 ⟨by kernel_rfl, by kernel_rfl⟩ (fun HB => ?_)
          refine' wpAnyM_lights [true, true, true, true, true] 55 _ (by decide +kernel) rfl (fun W hW => ?_) ?_
          rotate_left
          · obtain ⟨hcW, hfW⟩ := bCells (bTr HB hW)
            dsimp only [pickL]
            go_wp2
            exact Lend.ok
          refine wpAnyM_call [false, false, false, false, false, true] 5 ⟨by decide, by kernel_rfl, rfl, rfl⟩ (fun W hW => ?_)
          dsimp only [pickL]
          go_wp2_with fail
          go_wp2
          try (refine ⟨Below.refl _ _, ?_⟩)
          replace HB := bTr HB hW
          refine' wpAnyM_lights [false, false, false, false, false, false, true, true, true] 55 _ (by decide +kernel) rfl (fun W hW => ?_) ?_
          rotate_left
          · obtain ⟨hcW, hfW⟩ := bCells (bTr HB hW)
            dsimp only [pickL]
            go_wp2
            exact Lend.ok
          refine region_calm_end (by kernel_rfl) (fun W hW => ?_)
          replace HB := bTr HB hW
          go_wp2
          go_ret
          refine ⟨ret_bool ?_, bTr ((Below.refl _ _).alloc (Nat.le_refl _) _) HB⟩
          rw [Bool.eq_iff_iff, Hr.out]
          clear Hr HB
          unfold FineP firstS
          simp [numB] at *
          try omega
        · go_enter Try.func19, Try.ntmps19
          go_wp2_with (go_at_call 48; refine (numberR_any _ _).mono ?_; rintro e w' ⟨rfl, rfl⟩)
          refine region_calmB 9 ⟨by kernel_rfl, by kernel_rfl⟩ (fun HB => ?_)
          refine' wpAnyM_lights [true, true, true, true, true] 55 _ (by decide +kernel) rfl (fun W hW => ?_) ?_
          rotate_left
          · obtain ⟨hcW, hfW⟩ := bCells (bTr HB hW)
            dsimp only [pickL]
            go_wp2
            exact Lend.ok
          refine wpAnyM_call [false, false, false, false, false, true] 5 ⟨by decide, by kernel_rfl, rfl, rfl⟩ (fun W hW => ?_)
          dsimp only [pickL]
          go_wp2_with fail
          go_wp2
          try (refine ⟨Below.refl _ _, ?_⟩)
          replace HB := bTr HB hW
          refine' wpAnyM_lights [false, false, false, false, false, false, true, true, true] 55 _ (by decide +kernel) rfl (fun W hW => ?_) ?_
          rotate_left
          · obtain ⟨hcW, hfW⟩ := bCells (bTr HB hW)
            dsimp only [pickL]
            go_wp2
            exact Lend.ok
          refine region_calm_end (by kernel_rfl) (fun W hW => ?_)
          replace HB := bTr HB hW
          go_wp2
          go_ret
          refine ⟨ret_bool ?_, bTr ((Below.refl _ _).alloc (Nat.le_refl _) _) HB⟩
          rw [Bool.eq_iff_iff, Hr.out]
          clear Hr HB
          unfold FineP firstS
          simp [numB] at *
          try omega
      · go_enter Try.func19, Try.ntmps19
        go_wp2_with (go_at_call 48; refine (numberR_any _ _).mono ?_; rintro e w' ⟨rfl, rfl⟩)
        go_ret
        refine ⟨ret_bool ?_, (Below.refl _ _).alloc (Nat.le_refl _) _⟩
        rw [Bool.eq_iff_iff, Hr.out]
        clear Hr
        unfold FineP firstS
        simp [numB] at *
        try omega
end Go.Proofs.Ythngkojbokknfaa
/- append onto a row of the call's own, from a slice that reads as known cells (nil and empty ones let in): as a run, as an operation, in a plain and in a drawn region. -/
namespace Go.Proofs.Ythngkojbokknfaa
open Go Go.RowKit

/-- An element type's row of the table. -/
structure Elem (P : Program) (t e : TypeId) (z : Value) (size bytes : Nat) : Prop where
  under : P.underlying t = some (.slice e)
  info : (P.info? e).map (fun i => (i.zero, i.size, i.bytes)) = some (some z, size, bytes)
  cells : z.cells.size = size
  pos : 0 < size

section
variable {P : Program} {w : World} {base : Nat} {t e : TypeId} {z : Value} {size bytes : Nat}

theorem run_append_rd (E : Elem P t e z size bytes) (ty : TypeId) {v : Value} {n : Nat} {xs : List Value} (hown : w.ownsRow base e size v n xs)
    {A : Option Addr} {m : Nat} (c : Nat) {news : List Value} (hlen : news.length = m * size) (hr : Rd w A news) (h1 : ∀ u ∈ news, u.oneCell' = true)
    (h63 : n + m ≤ maxLen) (hbytes : (n + m) * bytes ≤ 140737488355328) (hbase : base ≤ w.heap.size) :
    ∃ v' w', (Builtin.append_ #[t, t] ty #[v, .slice A m c]).run P w = .ok v' w' ∧ w'.ownsRow base e size v' (n + m) (xs ++ news) ∧ w.grownBy w' v.ownBlock ∧
      (v'.ownBlock = v.ownBlock ∨ v'.ownBlock = some w.heap.size) := by
  obtain ⟨i, hi, hz, hsz, hby⟩ := info_parts E.info
  rcases Nat.eq_zero_or_pos m with h0 | h0
  · subst h0
    have hn : news = [] := List.eq_nil_of_length_eq_zero (by simpa using hlen)
    subst hn
    cases A with
    | none =>
      refine ⟨v, w, ?_, by simpa using hown, World.grownBy.refl w _, .inl rfl⟩
      rcases hown.2 with ⟨rfl, rfl⟩ | ⟨g, cap, cur, rfl, _, _, hnc, _⟩
      · simp [Builtin.append_, run_underlying E.under, sizeOf, typeInfo, hi, Builtin.lenOf, Builtin.firstCells]
      · simp [Builtin.append_, run_underlying E.under, sizeOf, typeInfo, hi, Builtin.lenOf, Builtin.firstCells, hnc, storeCells]
    | some ad =>
      obtain ⟨v', w', hrun, h2, h3, _, h5⟩ := run_append_own_at (P := P) w base t ty e i z size bytes E.under hi hz hsz hby E.cells E.pos v n xs hown ad 0 c [] (by simp) (by simp) (by simp) h63 hbytes hbase
      exact ⟨v', w', hrun, h2, h3, h5⟩
  · have hp : 0 < news.length := by rw [hlen]; exact Nat.mul_pos h0 E.pos
    obtain ⟨b, o, rfl, hb, _⟩ := hr 0 news[0] (List.getElem?_eq_getElem hp)
    have hcells : ∀ j u, news[j]? = some u → w.cell? ((⟨b, o, none⟩ : Addr).add j) = some u := by
      intro j u hu
      obtain ⟨b', o', e', _, hc⟩ := hr j u hu
      injection e' with e'
      injection e' with e1 e2
      subst e1; subst e2
      have e0 : (⟨b, o, none⟩ : Addr).add j = ⟨b, o + j, none⟩ := by simp only [Addr.add]; split <;> simp_all
      rw [e0]; exact hc
    obtain ⟨v', w', hrun, h2, h3, _, h5⟩ := run_append_own_at (P := P) w base t ty e i z size bytes E.under hi hz hsz hby E.cells E.pos v n xs hown _ m c news hlen hcells h1 h63 hbytes hbase
    exact ⟨v', w', hrun, h2, h3, h5⟩

theorem wp_append_rd {o : Oper} {a : Act} {K : Act → World → Prop} {Q : Exit → Act → World → Prop} (s x : Operand)
    (ho : o.op = .call { callee := .builtin .append, args := #[s, x], argTypes := #[t, t] }) (E : Elem P t e z size bytes)
    {v : Value} {n : Nat} {xs : List Value} (hs : a.eval s = v) (hown : w.ownsRow base e size v n xs)
    {A : Option Addr} {m c : Nat} {news : List Value} (hx : a.eval x = .slice A m c) (hlen : news.length = m * size) (hr : Rd w A news) (h1 : ∀ u ∈ news, u.oneCell' = true)
    (h63 : n + m ≤ maxLen) (hbytes : (n + m) * bytes ≤ 140737488355328) (hbase : base ≤ w.heap.size)
    (h : ∀ v' w', w'.ownsRow base e size v' (n + m) (xs ++ news) → w.grownBy w' v.ownBlock → (v'.ownBlock = v.ownBlock ∨ v'.ownBlock = some w.heap.size) → K (a.put o.dst v') w') : o.wp P a w K Q := by
  obtain ⟨v', w', hrun, h2, h3, h4⟩ := run_append_rd (w := w) E o.type hown c hlen hr h1 h63 hbytes hbase
  unfold Oper.wp execOp
  simp only [ho, resolve, invoke, builtin, Sem.run_bind, Sem.run_pure, Result.andThen_ok, List.map_toArray, List.map_cons, List.map_nil, hs, hx, hrun]
  exact h v' w' h2 h3 h4

/-- In a plain region. -/
theorem list_append_rd {ops : Array Oper} {rest : List Oper} {o : Oper} {a : Act} {Q : Exit → Act → World → Prop} (hgd : o.guard = none) (s x : Operand)
    (ho : o.op = .call { callee := .builtin .append, args := #[s, x], argTypes := #[t, t] }) (E : Elem P t e z size bytes)
    {v : Value} {n : Nat} {xs : List Value} (hs : a.eval s = v) (hown : w.ownsRow base e size v n xs)
    {A : Option Addr} {m c : Nat} {news : List Value} (hx : a.eval x = .slice A m c) (hlen : news.length = m * size) (hr : Rd w A news) (h1 : ∀ u ∈ news, u.oneCell' = true)
    (h63 : n + m ≤ maxLen) (hbytes : (n + m) * bytes ≤ 140737488355328) (hbase : base ≤ w.heap.size)
    (h : ∀ v' w', w'.ownsRow base e size v' (n + m) (xs ++ news) → w.grownBy w' v.ownBlock → (v'.ownBlock = v.ownBlock ∨ v'.ownBlock = some w.heap.size) → wpList P ops Q rest (a.put o.dst v') w') : wpList P ops Q (o :: rest) a w :=
  wpList_plain hgd fun _ hK => wp_append_rd s x ho E hs hown hx hlen hr h1 h63 hbytes hbase fun v' w' h2 h3 h4 => hK _ _ (h v' w' h2 h3 h4)

/-- In a region that draws its order. -/
theorem step_append_rd {ops : Array Oper} {o : Oper} {a : Act} {K : Act → World → Prop} {Q : Exit → Act → World → Prop} {F : Prop} (hgd : o.guard = none) (s x : Operand)
    (ho : o.op = .call { callee := .builtin .append, args := #[s, x], argTypes := #[t, t] }) (E : Elem P t e z size bytes)
    {v : Value} {n : Nat} {xs : List Value} (hs : a.eval s = v) (hown : w.ownsRow base e size v n xs)
    {A : Option Addr} {m c : Nat} {news : List Value} (hx : a.eval x = .slice A m c) (hlen : news.length = m * size) (hr : Rd w A news) (h1 : ∀ u ∈ news, u.oneCell' = true)
    (h63 : n + m ≤ maxLen) (hbytes : (n + m) * bytes ≤ 140737488355328) (hbase : base ≤ w.heap.size)
    (h : ∀ v' w', w'.ownsRow base e size v' (n + m) (xs ++ news) → w.grownBy w' v.ownBlock → (v'.ownBlock = v.ownBlock ∨ v'.ownBlock = some w.heap.size) → K (a.put o.dst v') w') :
    if Region.wanted o (yielded ops a.tmps) = true then Oper.wp P o a w K Q else F := by
  have hw : Region.wanted o (yielded ops a.tmps) = true := by simp [Region.wanted, hgd]
  rw [if_pos hw]
  exact wp_append_rd s x ho E hs hown hx hlen hr h1 h63 hbytes hbase h
end

theorem bvs_one (l : List UInt8) : ∀ u ∈ bvs l, u.oneCell' = true := by
  intro u hu
  simp only [bvs, List.mem_map] at hu
  obtain ⟨c, _, rfl⟩ := hu
  rfl
theorem bvs_append (l m : List UInt8) : bvs (l ++ m) = bvs l ++ bvs m := by simp [bvs]
theorem ivs_one (l : List Int) : ∀ u ∈ ivs l, u.oneCell' = true := by
  intro u hu
  simp only [ivs, List.mem_map] at hu
  obtain ⟨c, _, rfl⟩ := hu
  rfl
theorem own_base {w : World} {B B' : Nat} {e : TypeId} {size n : Nat} {v : Value} {xs : List Value} (h : w.ownsRow B e size v n xs) (hB : B' ≤ B) : w.ownsRow B' e size v n xs := by
  refine ⟨h.1, ?_⟩
  rcases h.2 with h2 | ⟨g, cap, cur, hv, hg, r⟩
  · exact .inl h2
  · exact .inr ⟨g, cap, cur, hv, Nat.le_trans hB hg, r⟩
/-- What has grown in rows of the call's own. -/
theorem bGrow {B : Nat} {a w w' : World} {v : Value} {e : TypeId} {size n : Nat} {xs : List Value} (h : Below B a w) (hg : w.grownBy w' v.ownBlock) (hB : B ≤ w.heap.size) (ho : w.ownsRow B e size v n xs) : Below B a w' :=
  h.grown hg hB (fun k hk => (ho.lt k hk).1)
end Go.Proofs.Ythngkojbokknfaa
/- A region that draws its order: lights first, all else in the one order that its edges leave; operations that write are seals. -/
namespace Go.Proofs.Ythngkojbokknfaa
open Go Go.RowKit
section
variable {P : Program} {ops : Array Oper} {Q : Exit → Act → World → Prop} {md : Region.Mode} {G : Nat → Nat → Prop} {sl : List Nat}

/-- Whatever order is picked; what is no seal leaves all that was there; a seal leaves G. -/
def wpF (P : Program) (md : Region.Mode) (ops : Array Oper) (G : Nat → Nat → Prop) (sl : List Nat) (Q : Exit → Act → World → Prop) : Nat → Array Bool → Act → World → Prop
  | 0, listed, a, w => Region.ready md ops listed = [] ∧ Q .normal a w
  | fuel + 1, listed, a, w => (Region.ready md ops listed = [] → Q .normal a w) ∧
    ∀ i ∈ Region.ready md ops listed, wpOp P ops Q i (fun a' w' => ((i ∈ sl → KeepB (G i) w w') ∧ (i ∉ sl → Below w.heap.size w w')) ∧ wpF P md ops G sl Q fuel (listed.setIfInBounds i true) a' w') a w

theorem wpF.any : ∀ (fuel : Nat) (listed : Array Bool) (a : Act) (w : World), wpF P md ops G sl Q fuel listed a w → wpAny P md ops Q fuel listed a w
  | 0, _, _, _, h => h
  | fuel + 1, _, _, _, h => ⟨h.1, fun i hi => wpOp_mono (fun a' w' h' => wpF.any fuel _ a' w' h'.2) (h.2 i hi)⟩

/-- What the lights of a batch have to stand: R. -/
structure Stands (G : Nat → Nat → Prop) (R : World → World → Prop) (nw : List Nat) : Prop where
  refl : ∀ x, R x x
  below : ∀ x y, Below x.heap.size x y → R x y
  trans : ∀ x y z, R x y → R y z → R x z
  seal_ : ∀ j ∈ nw, ∀ x y, KeepB (G j) x y → R x y
theorem yields_turn {R : World → World → Prop} (ht : ∀ x y z, R x y → R y z → R x z) {oi : Oper} {v : Value} {a : Act} {w w' : World} (h : YieldsIf P ops (fun W => R w W) oi v a) (hb : R w w') : YieldsIf P ops (fun W => R w' W) oi v a :=
  h.imp (fun ⟨h1, h2⟩ => ⟨h1, fun W hW => h2 W (ht _ _ _ hb hW)⟩) id

theorem wpF_first {R : World → World → Prop} {nw : List Nat} (hR : Stands G R nw) {i : Nat} {oi : Oper} {v : Value} (hi : ops[i]? = some oi) (hsel : ∀ (j : Nat) (o : Oper) cs b, ops[j]? = some o → o.op ≠ .select cs b)
    (hQ : ∀ c a w, Q (.panic c) (a.put oi.dst v) w → Q (.panic c) a w) (hil : i ∉ sl) :
    ∀ (fuel : Nat) (listed : Array Bool) (a : Act) (w : World),
      (∀ j oj, ops[j]? = some oj → j ≠ i → listed.getD j true = false → (∀ e ∈ oj.after, Region.binds md e = true → e.on ≠ i) → oi.apart ops oj = true) →
      (∀ j oj, j ∈ sl → j ∉ nw → ops[j]? = some oj → listed.getD j true = false → ∃ e ∈ oj.after, Region.binds md e = true ∧ e.on = i) →
      i ∈ Region.ready md ops listed → YieldsIf P ops (fun W => R w W) oi v a →
      wpF P md ops G sl Q fuel (listed.setIfInBounds i true) (a.put oi.dst v) w → wpF P md ops G sl Q (fuel + 1) listed a w := by
  intro fuel
  induction fuel with
  | zero =>
    intro listed a w hfree hse hr hy H
    refine ⟨fun h => (by rw [h] at hr; cases hr), fun j hj => ?_⟩
    by_cases hji : j = i
    · subst hji; exact hy.wpOp hi (hR.refl w) ⟨⟨fun h => (hil h).elim, fun _ => Below.refl _ _⟩, H⟩
    · have := ready_mono hj hji
      rw [H.1] at this
      cases this
  | succ fuel ih =>
    intro listed a w hfree hse hr hy H
    refine ⟨fun h => (by rw [h] at hr; cases hr), fun j hj => ?_⟩
    by_cases hji : j = i
    · subst hji; exact hy.wpOp hi (hR.refl w) ⟨⟨fun h => (hil h).elim, fun _ => Below.refl _ _⟩, H⟩
    · have h1 := H.2 j (ready_mono hj hji)
      obtain ⟨hjun, oj, hoj, hall⟩ := mem_ready.1 hj
      have hnot : ∀ e ∈ oj.after, Region.binds md e = true → e.on ≠ i := fun e he hb heq => by
        have h1 := hall e he hb
        have h0 := (mem_ready.1 hr).1
        rw [heq] at h1
        rcases Nat.lt_or_ge i listed.size with h' | h'
        · simp [h'] at h0 h1; rw [h0] at h1; cases h1
        · simp [Array.getElem?_eq_none h'] at h1
      have hstep : ∀ w', ((j ∈ sl → KeepB (G j) w w') ∧ (j ∉ sl → Below w.heap.size w w')) → R w w' := fun w' h => by
        by_cases hjs : j ∈ sl
        · by_cases hp : j ∈ nw
          · exact hR.seal_ j hp _ _ (h.1 hjs)
          · obtain ⟨e, he, hb, heq⟩ := hse j oj hjs hp hoj hjun
            exact (hnot e he hb heq).elim
        · exact hR.below _ _ (h.2 hjs)
      have h2 := wpOp_putIf hoj (hfree j oj hoj hji hjun hnot) (fun cs b => hsel i oi cs b hi) (fun cs b => hsel j oj cs b hoj) hQ hy h1
      have hun' : ∀ k, (listed.setIfInBounds j true).getD k true = false → listed.getD k true = false := fun k hun => by
        by_cases hjk : j = k
        · subst hjk; exact hjun
        · rw [getD_set_ne true hjk] at hun; exact hun
      refine wpOp_mono (fun a' w' h3 => ⟨h3.2.1, ih (listed.setIfInBounds j true) a' w' (fun k ok hk hki hun hno => hfree k ok hk hki (hun' k hun) hno) (fun k ok hks hkn hk hun => hse k ok hks hkn hk (hun' k hun)) (ready_mono hr (Ne.symm hji))
        (yields_turn hR.trans h3.1 (hstep w' h3.2.1)) ?_⟩) h2
      rw [Array.setIfInBounds_comm _ _ hji]
      exact h3.2.2

/-- Does each seal that is to come wait for i? -/
def sealsWait (md : Region.Mode) (ops : Array Oper) (sl nw : List Nat) (listed : Array Bool) (i : Nat) : Bool :=
  sl.all fun j => nw.contains j || listed.getD j true || match ops[j]? with
    | some oj => oj.after.any fun e => Region.binds md e && e.on == i
    | none => true
theorem sealsWait_spec {listed : Array Bool} {i : Nat} {nw : List Nat} (h : sealsWait md ops sl nw listed i = true) (j : Nat) (oj : Oper) (hj : j ∈ sl) (hn : j ∉ nw) (ho : ops[j]? = some oj) (hu : listed.getD j true = false) : ∃ e ∈ oj.after, Region.binds md e = true ∧ e.on = i := by
  have := List.all_eq_true.1 h j hj
  have hn' : nw.contains j = false := by simpa using hn
  rw [hu, ho, hn'] at this
  simp only [Bool.false_or] at this
  obtain ⟨e, he, hb⟩ := Array.any_eq_true'.1 this
  simp only [Bool.and_eq_true, beq_iff_eq] at hb
  exact ⟨e, he, hb.1, hb.2⟩
def sealsOk (md : Region.Mode) (ops : Array Oper) (sl nw : List Nat) : Array Bool → List Nat → Bool
  | _, [] => true
  | listed, i :: is => !sl.contains i && sealsWait md ops sl nw listed i && sealsOk md ops sl nw (listed.setIfInBounds i true) is

theorem wpF_lightsI {R : World → World → Prop} {nw : List Nat} (hR : Stands G R nw) (hns : Region.noSelect ops = true) {A : Act} : ∀ (is : List Nat) (ls : List Oper) (fuel : Nat) (listed : Array Bool) (a : Act) (w : World),
    Sel ops is ls → lightsOk md ops a.tmps.size listed is ls = true → sealsOk md ops sl nw listed is = true →
    (∀ w1, R w w1 → wpList P ops (Lend A w1) ls a w1) → wpF P md ops G sl (NoPanic Q) fuel (listAll listed is) A w → wpF P md ops G sl (NoPanic Q) (fuel + is.length) listed a w
  | [], _ :: _, _, _, _, _, hf, _, _, _, _ => hf.elim
  | _ :: _, [], _, _, _, _, hf, _, _, _, _ => hf.elim
  | [], [], fuel, listed, a, w, hf, _, _, H, K => by
    obtain ⟨_, rfl, _⟩ := H w (hR.refl w)
    exact K
  | i :: is, o :: ls, fuel, listed, a, w, ⟨hi, hf⟩, hok, hso, H, K => by
    simp only [lightsOk, Bool.and_eq_true] at hok
    obtain ⟨⟨⟨⟨hl, hr⟩, hfree⟩, hd⟩, hrest⟩ := hok
    simp only [sealsOk, Bool.and_eq_true] at hso
    obtain ⟨⟨hil, hpw⟩, hsrest⟩ := hso
    have hil' : i ∉ sl := by simpa using hil
    have hse : ∀ j oj, j ∈ sl → j ∉ nw → ops[j]? = some oj → listed.getD j true = false → ∃ e ∈ oj.after, Region.binds md e = true ∧ e.on = i := sealsWait_spec hpw
    have hall := lightsOk_all is ls hrest
    obtain ⟨d, hdst, hdsz, hdis⟩ : ∃ d, o.dst = some d ∧ d < a.tmps.size ∧ ∀ o' ∈ ls, o'.dst ≠ some d := by
      cases hdd : o.dst with
      | none => rw [hdd] at hd; cases hd
      | some d =>
        rw [hdd] at hd
        simp only [Bool.and_eq_true, decide_eq_true_eq, List.all_eq_true] at hd
        exact ⟨d, rfl, hd.1, fun o' ho => by simpa using hd.2 o' ho⟩
    have hQ : ∀ (v : Value) c a w, NoPanic Q (.panic c) (a.put o.dst v) w → NoPanic Q (.panic c) a w := fun v c a w h => h
    cases hw : Region.wanted o (yielded ops a.tmps) with
    | true =>
      have step : ∀ w1, R w w1 → ∃ v, (execOp a.eval o).run P w1 = .ok (.value v) w1 ∧ wpList P ops (Lend A w1) ls (a.put o.dst v) w1 ∧ A.tmps[d]? = some v := fun w1 h1 => by
        have h := H w1 h1
        unfold wpList at h
        rw [if_pos hw] at h
        obtain ⟨v, u', hrun, hk⟩ := light_wp hl h
        obtain ⟨_, m1, m2, m3⟩ := light_run hl hrun
        obtain ⟨e1, e2, e3⟩ := lights_end ls _ _ hall hk
        obtain rfl := m3 (by omega) (by omega)
        refine ⟨v, hrun, hk, ?_⟩
        rw [e3 d hdis, hdst]
        simp [Act.put, hdsz]
      obtain ⟨v, _, _, hAv⟩ := step w (hR.refl w)
      have step2 : ∀ w1, R w w1 → (execOp a.eval o).run P w1 = .ok (.value v) w1 ∧ wpList P ops (Lend A w1) ls (a.put o.dst v) w1 := fun w1 h1 => by
        obtain ⟨v', h2, h3, h4⟩ := step w1 h1
        rw [hAv] at h4
        injection h4 with h4
        subst h4
        exact ⟨h2, h3⟩
      have := wpF_lightsI hR hns is ls fuel (listed.setIfInBounds i true) (a.put o.dst v) w hf (by rw [put_size]; exact hrest) hsrest (fun w1 h1 => (step2 w1 h1).2) K
      exact wpF_first hR hi (Region.noSelect_spec hns) (hQ v) hil' _ listed a w (Region.free_spec hi hfree) hse (by simpa using hr) (.inl ⟨hw, fun w1 h1 => (step2 w1 h1).1⟩) this
    | false =>
      have := wpF_lightsI hR hns is ls fuel (listed.setIfInBounds i true) (a.put o.dst undef) w hf (by rw [put_size]; exact hrest) hsrest (fun w1 h1 => by
        have h := H w1 h1
        unfold wpList at h
        rw [if_neg (by rw [hw]; simp)] at h
        exact h) K
      exact wpF_first hR hi (Region.noSelect_spec hns) (hQ undef) hil' _ listed a w (Region.free_spec hi hfree) hse (by simpa using hr) (.inr ⟨hw, rfl⟩) this

/-- A batch of lights, by a mask; each seal that is to come waits for each of them, or there is none. -/
theorem wpF_lights (m : List Bool) (sz : Nat) {l : List Oper} {a : Act} (A : Act) {w : World} {f : Nat} {listed : Array Bool}
    (hm : (m.length ≤ l.length ∧ Region.noSelect l.toArray = true ∧ (pickI m 0).length ≤ f ∧ lightsOk md l.toArray sz listed (pickI m 0) (pickL m l) = true ∧ sealsOk md l.toArray sl [] listed (pickI m 0) = true)) (hsz : a.tmps.size = sz)
    (H : ∀ w1, Below w.heap.size w w1 → wpList P l.toArray (Lend A w1) (pickL m l) a w1) (K : wpF P md l.toArray G sl (NoPanic Q) (f - (pickI m 0).length) (listAll listed (pickI m 0)) A w) : wpF P md l.toArray G sl (NoPanic Q) f listed a w := by
  have e : f = (f - (pickI m 0).length) + (pickI m 0).length := by omega
  rw [e]
  subst hsz
  exact wpF_lightsI (R := fun x y => Below x.heap.size x y) ⟨fun x => Below.refl _ _, fun _ _ h => h, fun _ _ _ => bTr, fun _ h => by cases h⟩ hm.2.1 (pickI m 0) (pickL m l) _ listed a w (sel_pick m l 0 hm.1 (fun j => by simp)) hm.2.2.2.1 hm.2.2.2.2 H K
/-- A batch of lights that stand whatever a seal may leave. -/
theorem wpF_lightsG (m : List Bool) (sz : Nat) (nw : List Nat) (S : Nat → Prop) {l : List Oper} {a : Act} (A : Act) {w : World} {f : Nat} {listed : Array Bool}
    (hm : (m.length ≤ l.length ∧ Region.noSelect l.toArray = true ∧ (pickI m 0).length ≤ f ∧ lightsOk md l.toArray sz listed (pickI m 0) (pickL m l) = true ∧ sealsOk md l.toArray sl nw listed (pickI m 0) = true)) (hS : ∀ j ∈ nw, ∀ b, S b → G j b) (hsz : a.tmps.size = sz)
    (H : ∀ w1, KeepB S w w1 → wpList P l.toArray (Lend A w1) (pickL m l) a w1) (K : wpF P md l.toArray G sl (NoPanic Q) (f - (pickI m 0).length) (listAll listed (pickI m 0)) A w) : wpF P md l.toArray G sl (NoPanic Q) f listed a w := by
  have e : f = (f - (pickI m 0).length) + (pickI m 0).length := by omega
  rw [e]
  subst hsz
  exact wpF_lightsI (R := KeepB S) ⟨fun x => KeepB.refl _ _, fun _ _ h => KeepB.of_below h (fun _ hk _ => hk), fun _ _ _ => KeepB.trans, fun j hj _ _ h => h.sub fun b _ hb => hS j hj b hb⟩ hm.2.1 (pickI m 0) (pickL m l) _ listed a w (sel_pick m l 0 hm.1 (fun j => by simp)) hm.2.2.2.1 hm.2.2.2.2 H K

/-- An operation that leaves all that was there, when it alone may come up. -/
theorem wpF_call (m : List Bool) (i : Nat) {o : Oper} {l : List Oper} {a : Act} {w : World} {f : Nat} {listed : Array Bool}
    (hr : (0 < f ∧ Region.ready md l.toArray listed = [i] ∧ sl.contains i = false)) (ho : pickL m l = [o]) (hi : l.toArray[i]? = some o)
    (H : wpList P l.toArray (fun e a' w' => e = .normal ∧ Below w.heap.size w w' ∧ wpF P md l.toArray G sl (NoPanic Q) (f - 1) (listed.setIfInBounds i true) a' w') (pickL m l) a w) :
    wpF P md l.toArray G sl (NoPanic Q) f listed a w := by
  obtain ⟨hf, hr, hs⟩ := hr
  have hs : i ∉ sl := by simpa using hs
  obtain ⟨f, rfl⟩ : ∃ g, f = g + 1 := ⟨f - 1, by omega⟩
  refine ⟨fun h0 => (by rw [hr] at h0; cases h0), fun j hj => ?_⟩
  rw [hr] at hj
  obtain rfl : j = i := by simpa using hj
  rw [ho] at H
  exact wpOp_mono (fun a' w' h => ⟨⟨fun hh => (hs hh).elim, fun _ => h.1⟩, h.2⟩) (one_op hi H)
/-- Two that leave all that was there, when they alone may come up. -/
theorem wpF_two (m m' : List Bool) (i j : Nat) {o o' : Oper} {l : List Oper} {a : Act} {w : World} {f : Nat} {listed : Array Bool}
    (hr : (0 < f ∧ Region.ready md l.toArray listed = [i, j] ∧ sl.contains i = false ∧ sl.contains j = false)) (ho : pickL m l = [o]) (hi : l.toArray[i]? = some o) (ho' : pickL m' l = [o']) (hj : l.toArray[j]? = some o')
    (H : wpList P l.toArray (fun e a' w' => e = .normal ∧ Below w.heap.size w w' ∧ wpF P md l.toArray G sl (NoPanic Q) (f - 1) (listed.setIfInBounds i true) a' w') (pickL m l) a w)
    (H' : wpList P l.toArray (fun e a' w' => e = .normal ∧ Below w.heap.size w w' ∧ wpF P md l.toArray G sl (NoPanic Q) (f - 1) (listed.setIfInBounds j true) a' w') (pickL m' l) a w) :
    wpF P md l.toArray G sl (NoPanic Q) f listed a w := by
  obtain ⟨hf, hr, hs, hs'⟩ := hr
  have hs : i ∉ sl := by simpa using hs
  have hs' : j ∉ sl := by simpa using hs'
  obtain ⟨f, rfl⟩ : ∃ g, f = g + 1 := ⟨f - 1, by omega⟩
  refine ⟨fun h0 => (by rw [hr] at h0; cases h0), fun k hk => ?_⟩
  rw [hr] at hk
  rw [ho] at H
  rw [ho'] at H'
  rcases List.mem_cons.1 hk with rfl | hk
  · exact wpOp_mono (fun a' w' h => ⟨⟨fun hh => (hs hh).elim, fun _ => h.1⟩, h.2⟩) (one_op hi H)
  · obtain rfl : k = j := by simpa using hk
    exact wpOp_mono (fun a' w' h => ⟨⟨fun hh => (hs' hh).elim, fun _ => h.1⟩, h.2⟩) (one_op hj H')
/-- A seal, when it alone may come up. -/
theorem wpF_seal (m : List Bool) (i : Nat) {o : Oper} {l : List Oper} {a : Act} {w : World} {f : Nat} {listed : Array Bool}
    (hr : (0 < f ∧ Region.ready md l.toArray listed = [i] ∧ sl.contains i = true)) (ho : pickL m l = [o]) (hi : l.toArray[i]? = some o)
    (H : wpList P l.toArray (fun e a' w' => e = .normal ∧ KeepB (G i) w w' ∧ wpF P md l.toArray G sl (NoPanic Q) (f - 1) (listed.setIfInBounds i true) a' w') (pickL m l) a w) :
    wpF P md l.toArray G sl (NoPanic Q) f listed a w := by
  obtain ⟨hf, hr, hs⟩ := hr
  have hs : i ∈ sl := by simpa using hs
  obtain ⟨f, rfl⟩ : ∃ g, f = g + 1 := ⟨f - 1, by omega⟩
  refine ⟨fun h0 => (by rw [hr] at h0; cases h0), fun j hj => ?_⟩
  rw [hr] at hj
  obtain rfl : j = i := by simpa using hj
  rw [ho] at H
  exact wpOp_mono (fun a' w' h => ⟨⟨fun _ => h.1, fun hh => (hh hs).elim⟩, h.2⟩) (one_op hi H)
theorem wpF_end {l : List Oper} {a : Act} {w : World} {f : Nat} {listed : Array Bool} (hr : Region.ready md l.toArray listed = []) (h : Q .normal a w) : wpF P md l.toArray G sl (NoPanic Q) f listed a w := by
  cases f with
  | zero => exact ⟨hr, h⟩
  | succ f => exact ⟨fun _ => h, by rw [hr]; simp⟩

theorem own_slice {w : World} {B : Nat} {e : TypeId} {size n : Nat} {v : Value} {xs : List Value} (h : w.ownsRow B e size v n xs) : ∃ A c, v = .slice A n c ∧ n ≤ c ∧ c ≤ maxLen := by
  rcases h.2 with ⟨rfl, rfl⟩ | ⟨g, cap, cur, rfl, _, _, h1, h2, _⟩
  · exact ⟨none, 0, rfl, Nat.le_refl _, by simp⟩
  · exact ⟨_, cap, rfl, h1, h2⟩
theorem own_row_base {w : World} {B : Nat} {e : TypeId} {size n : Nat} {v : Value} {xs : List Value} (h : w.ownsRow B e size v n xs) : ∀ k, v.ownBlock = some k → B ≤ k := fun k hk => by
  rcases h.2 with ⟨rfl, rfl⟩ | ⟨g, cap, cur, rfl, hb, _, h1, h2, _⟩
  · cases hk
  · have : g = k := by simpa [Value.ownBlock] using hk
    omega
/-- append inside a fence. -/
theorem listIn_append_rd {F : Fence} {n0 : Nat} {w : World} {base : Nat} {t e : TypeId} {z : Value} {size bytes : Nat} {rest : List Oper} {o : Oper} {a : Act} (hgd : o.guard = none) (s x : Operand)
    (ho : o.op = .call { callee := .builtin .append, args := #[s, x], argTypes := #[t, t] }) (E : Elem P t e z size bytes)
    {v : Value} {n : Nat} {xs : List Value} (hs : a.eval s = v) (hown : w.ownsRow base e size v n xs)
    {A : Option Addr} {m c : Nat} {news : List Value} (hx : a.eval x = .slice A m c) (hlen : news.length = m * size) (hr : Rd w A news) (h1 : ∀ u ∈ news, u.oneCell' = true)
    (h63 : n + m ≤ maxLen) (hbytes : (n + m) * bytes ≤ 140737488355328) (hbase : base ≤ w.heap.size)
    (h : ∀ v' w', w'.ownsRow base e size v' (n + m) (xs ++ news) → w.grownBy w' v.ownBlock → (v'.ownBlock = v.ownBlock ∨ v'.ownBlock = some w.heap.size) → wpListIn F n0 P ops Q rest (a.put o.dst v') w') : wpListIn F n0 P ops Q (o :: rest) a w := by
  refine wpListIn_plain hgd fun K hK' => ?_
  obtain ⟨v', w', hrun, h2, h3, h4⟩ := run_append_rd (w := w) E o.type hown c hlen hr h1 h63 hbytes hbase
  unfold Oper.wpIn
  refine ⟨?_, ?_⟩
  · simp [Oper.about, ho, resolve, Target.leads, Sem.run_pure]
  · rw [Oper.semAt_plain F _ _ (by rw [ho]; intro c hc'; cases hc')]
    simp [execOp, ho, resolve, invoke, builtin, hs, hx, hrun, Result.andThen]
    exact hK' _ _ (h v' w' h2 h3 h4)
/-- A region, in whatever order; it does not panic. -/
theorem region_flow {id : Nat} {l : List Oper} {a : Act} {w : World} (n : Nat) (sl : List Nat) (G : Nat → Nat → Prop) (hm : (P.follows .mixedOrders = true ∧ l.length = n))
    (h : ∀ w1, Below w.heap.size w w1 → wpF P .any l.toArray G sl (NoPanic Q) n (Array.replicate n false) a w1) : (Code.region id l.toArray true).wp P Q a w := by
  obtain ⟨hm, rfl⟩ := hm
  refine wp_region_noPanic (wp_region_any hm ?_)
  exact (h w.drew (Below.refl w.heap.size w).drew).any
/-- One without a writer. -/
theorem region_flow0 {id : Nat} {l : List Oper} {a : Act} {w : World} (n : Nat) (hm : (P.follows .mixedOrders = true ∧ l.length = n))
    (h : ∀ w1, Below w.heap.size w w1 → wpF P .any l.toArray (fun _ _ => True) [] (NoPanic Q) n (Array.replicate n false) a w1) : (Code.region id l.toArray true).wp P Q a w :=
  region_flow n [] _ hm h
end
end Go.Proofs.Ythngkojbokknfaa
/- The walks of entries and states: what comes behind. -/
namespace Go.Proofs.Ythngkojbokknfaa
open Go Go.RowKit

/-- The struct in a block of its own. -/
def Box5 (W : World) (b : Nat) (s : St) : Prop :=
  (W.cell? ⟨b, 0, none⟩ = some (.int .i64 s.index) ∧ W.cell? ⟨b, 1, none⟩ = some (.int .i64 s.term) ∧ W.cell? ⟨b, 2, none⟩ = some (.int .i64 s.sum) ∧ W.cell? ⟨b, 3, none⟩ = some (.int .i64 s.level) ∧ W.cell? ⟨b, 4, none⟩ = some (.bool s.final)) ∧
  ∀ o, W.frozen? ⟨b, o, none⟩ = false

theorem cell_set {w : World} {b o : Nat} {u : Value} (h : w.cell? ⟨b, o, none⟩ = some u) (v : Value) (o2 : Nat) : (w.setCell ⟨b, o, none⟩ v).cell? ⟨b, o2, none⟩ = if o2 = o then some v else w.cell? ⟨b, o2, none⟩ := by
  split
  · rename_i e; subst e; exact World.cell?_setCell_same' _ _ _ (by rw [h]; rfl)
  · rename_i e; exact World.cell?_setCell_other (h := by intro h; injection h with _ h; exact e h.symm) ..
theorem Box5.set {w : World} {b : Nat} {s s' : St} (h : Box5 w b s) (o : Nat) (v : Value) (ho : ∃ u, w.cell? ⟨b, o, none⟩ = some u)
    (h0 : (if 0 = o then v else .int .i64 s.index) = .int .i64 s'.index) (h1 : (if 1 = o then v else .int .i64 s.term) = .int .i64 s'.term) (h2 : (if 2 = o then v else .int .i64 s.sum) = .int .i64 s'.sum)
    (h3 : (if 3 = o then v else .int .i64 s.level) = .int .i64 s'.level) (h4 : (if 4 = o then v else .bool s.final) = .bool s'.final) : Box5 (w.setCell ⟨b, o, none⟩ v) b s' := by
  obtain ⟨u, hu⟩ := ho
  obtain ⟨⟨c0, c1, c2, c3, c4⟩, hf⟩ := h
  refine ⟨⟨?_, ?_, ?_, ?_, ?_⟩, fun o => by rw [World.frozen?_setCell]; exact hf o⟩ <;> rw [cell_set hu]
  · rw [← h0, c0]; split <;> rfl
  · rw [← h1, c1]; split <;> rfl
  · rw [← h2, c2]; split <;> rfl
  · rw [← h3, c3]; split <;> rfl
  · rw [← h4, c4]; split <;> rfl
theorem Box5.keep {S : Nat → Prop} {W W' : World} {b : Nat} {s : St} (h : Box5 W b s) (hk : KeepB S W W') (hs : S b) : Box5 W' b s := by
  obtain ⟨⟨c0, c1, c2, c3, c4⟩, hf⟩ := h
  exact ⟨⟨hk.cell (p := ⟨b, 0, none⟩) hs c0, hk.cell (p := ⟨b, 1, none⟩) hs c1, hk.cell (p := ⟨b, 2, none⟩) hs c2, hk.cell (p := ⟨b, 3, none⟩) hs c3, hk.cell (p := ⟨b, 4, none⟩) hs c4⟩,
    fun o => (hk.frozen (p := ⟨b, o, none⟩) (World.block_lt_of_cell? W ⟨b, 0, none⟩ c0) hs).trans (hf o)⟩
theorem Box5.lt {W : World} {b : Nat} {s : St} (h : Box5 W b s) : b < W.heap.size := World.block_lt_of_cell? W _ h.1.1
theorem Box5.new (W : World) (s : St) (t : TypeId) : Box5 (W.alloc (.cells #[.int .i64 s.index, .int .i64 s.term, .int .i64 s.sum, .int .i64 s.level, .bool s.final] t)) W.heap.size s := by
  refine ⟨⟨?_, ?_, ?_, ?_, ?_⟩, fun o => ?_⟩ <;> simp

theorem deed0 (v : Int) (s : St) (b : Nat) (w : World) (hb : Box5 w b s) :
    Calls Try.prog 70 #[.pointer (some ⟨b, 0, none⟩), .int .i64 v] w fun e w' => e = .returned (.tuple #[]) ∧ Box5 w' b (deedS 0 v s) ∧ KeepB (fun x => x ≠ b) w w' := by
  have HB := Lib.hid hb
  obtain ⟨a1, a2, a3, a4, a5⟩ := s
  obtain ⟨⟨c0, c1, c2, c3, c4⟩, hf⟩ := hb
  have hf2 := hf 2
  have hf3 := hf 3
  have hf4 := hf 4
  clear hf
  go_enter Try.func70, Try.ntmps70
  go_wp2
  go_end0
  exact ⟨rfl, HB.out, KeepB.refl _ _⟩

theorem deed1 (v : Int) (s : St) (h1 : 0 ≤ s.sum ∧ s.sum ≤ 1073741824) (h2 : 0 ≤ v ∧ v ≤ 1073741824) (b : Nat) (w : World) (hb : Box5 w b s) :
    Calls Try.prog 71 #[.pointer (some ⟨b, 0, none⟩), .int .i64 v] w fun e w' => e = .returned (.tuple #[]) ∧ Box5 w' b (deedS 1 v s) ∧ KeepB (fun x => x ≠ b) w w' := by
  have HB := Lib.hid hb
  obtain ⟨a1, a2, a3, a4, a5⟩ := s
  obtain ⟨⟨c0, c1, c2, c3, c4⟩, hf⟩ := hb
  have hf2 := hf 2
  have hf3 := hf 3
  have hf4 := hf 4
  clear hf
  dsimp only at c0 c1 c2 c3 c4 h1
  have hm : bits BinOp.and IntKind.i64 (31 * a3 + v + 1) 1073741823 = (31 * a3 + v + 1) % 1073741824 := by
    have := bits_mask .i64 63 (by decide) (fun n h0 h1 => by rw [IntKind.wrap_i64]; omega) 30 (by decide) (31 * a3 + v + 1) (by omega) (by omega)
    simpa using this
  go_enter Try.func71, Try.ntmps71
  go_wp2
  go_end0
  exact ⟨rfl, HB.out.set 2 _ ⟨_, c2⟩ rfl rfl rfl rfl rfl, (KeepB.refl _ _).setCell (by simp) _⟩

theorem deed2 (v : Int) (s : St) (b : Nat) (w : World) (hb : Box5 w b s) :
    Calls Try.prog 72 #[.pointer (some ⟨b, 0, none⟩), .int .i64 v] w fun e w' => e = .returned (.tuple #[]) ∧ Box5 w' b (deedS 2 v s) ∧ KeepB (fun x => x ≠ b) w w' := by
  have HB := Lib.hid hb
  obtain ⟨a1, a2, a3, a4, a5⟩ := s
  obtain ⟨⟨c0, c1, c2, c3, c4⟩, hf⟩ := hb
  have hf2 := hf 2
  have hf3 := hf 3
  have hf4 := hf 4
  clear hf
  dsimp only at c0 c1 c2 c3 c4
  go_enter Try.func72, Try.ntmps72
  go_wp2
  go_end0
  exact ⟨rfl, HB.out.set 3 _ ⟨_, c3⟩ rfl rfl rfl rfl rfl, (KeepB.refl _ _).setCell (by simp) _⟩

theorem deed3 (v : Int) (s : St) (b : Nat) (w : World) (hb : Box5 w b s) :
    Calls Try.prog 73 #[.pointer (some ⟨b, 0, none⟩), .int .i64 v] w fun e w' => e = .returned (.tuple #[]) ∧ Box5 w' b (deedS 3 v s) ∧ KeepB (fun x => x ≠ b) w w' := by
  have HB := Lib.hid hb
  obtain ⟨a1, a2, a3, a4, a5⟩ := s
  obtain ⟨⟨c0, c1, c2, c3, c4⟩, hf⟩ := hb
  have hf2 := hf 2
  have hf3 := hf 3
  have hf4 := hf 4
  clear hf
  dsimp only at c0 c1 c2 c3 c4
  cases a5
  all_goals skip
  all_goals go_enter Try.func73, Try.ntmps73
  all_goals go_wp2
  all_goals go_end0
  · exact ⟨rfl, HB.out.set 3 _ ⟨_, c3⟩ rfl rfl rfl rfl rfl, (KeepB.refl _ _).setCell (by simp) _⟩
  · exact ⟨rfl, HB.out, KeepB.refl _ _⟩

theorem deed4 (v : Int) (s : St) (b : Nat) (w : World) (hb : Box5 w b s) :
    Calls Try.prog 74 #[.pointer (some ⟨b, 0, none⟩), .int .i64 v] w fun e w' => e = .returned (.tuple #[]) ∧ Box5 w' b (deedS 4 v s) ∧ KeepB (fun x => x ≠ b) w w' := by
  have HB := Lib.hid hb
  obtain ⟨a1, a2, a3, a4, a5⟩ := s
  obtain ⟨⟨c0, c1, c2, c3, c4⟩, hf⟩ := hb
  have hf2 := hf 2
  have hf3 := hf 3
  have hf4 := hf 4
  clear hf
  dsimp only at c0 c1 c2 c3 c4
  go_enter Try.func74, Try.ntmps74
  go_wp2
  go_end0
  exact ⟨rfl, HB.out.set 4 _ ⟨_, c4⟩ rfl rfl rfl rfl rfl, (KeepB.refl _ _).setCell (by simp) _⟩
end Go.Proofs.Ythngkojbokknfaa
/- The walk of the program's Next. -/
namespace Go.Proofs.Ythngkojbokknfaa
open Go Go.RowKit

/-- The three numbers of an entry in a block of its own. -/
def Box3 (W : World) (b : Nat) (e : En) : Prop :=
  W.cell? ⟨b, 0, none⟩ = some (.int .i64 e.term) ∧ W.cell? ⟨b, 1, none⟩ = some (.int .i64 e.kind) ∧ W.cell? ⟨b, 2, none⟩ = some (.int .i64 e.value)
theorem Box3.keep {S : Nat → Prop} {W W' : World} {b : Nat} {s : En} (h : Box3 W b s) (hk : KeepB S W W') (hs : S b) : Box3 W' b s :=
  ⟨hk.cell (p := ⟨b, 0, none⟩) hs h.1, hk.cell (p := ⟨b, 1, none⟩) hs h.2.1, hk.cell (p := ⟨b, 2, none⟩) hs h.2.2⟩
theorem Box3.lt {W : World} {b : Nat} {s : En} (h : Box3 W b s) : b < W.heap.size := World.block_lt_of_cell? W _ h.1
theorem keepT {a b : World} (h : Below a.heap.size a b) : KeepB (fun _ => True) a b := KeepB.of_below h fun _ h _ => h

/-- What lies behind the beginning of Next. -/
structure NextW (w0 w : World) (s : St) (e : En) (z : St) : Prop where
  below : Below w0.heap.size w0 w
  s5 : Box5 w w0.heap.size s
  e3 : Box3 w (w0.heap.size + 1) e
  z5 : Box5 w (w0.heap.size + 1 + 1) z
theorem NextW.keep {w0 w w' : World} {s : St} {e : En} {z : St} (h : NextW w0 w s e z) (hb : Below w.heap.size w w') : NextW w0 w' s e z :=
  ⟨bTr h.below hb, h.s5.keep (keepT hb) trivial, h.e3.keep (keepT hb) trivial, h.z5.keep (keepT hb) trivial⟩
theorem NextW.new (w : World) (s : St) (e : En) (z : St) : NextW w (((w.alloc (.cells #[.int .i64 s.index, .int .i64 s.term, .int .i64 s.sum, .int .i64 s.level, .bool s.final] 23)).alloc (.cells #[.int .i64 e.term, .int .i64 e.kind, .int .i64 e.value] 50)).alloc (.cells #[.int .i64 z.index, .int .i64 z.term, .int .i64 z.sum, .int .i64 z.level, .bool z.final] 23)) s e z := by
  refine ⟨(((Below.refl _ _).alloc (Nat.le_refl _) _).alloc (by simp) _).alloc (by simp; omega) _, ?_, ?_, ?_⟩
  · exact ((Box5.new w s _).keep ((KeepB.refl (fun _ => True) _).alloc _) trivial).keep ((KeepB.refl (fun _ => True) _).alloc _) trivial
  · refine ⟨?_, ?_, ?_⟩ <;> (have : w.heap.size + 1 ≠ w.heap.size := by omega) <;> go_simp
  · have := Box5.new ((w.alloc (.cells #[.int .i64 s.index, .int .i64 s.term, .int .i64 s.sum, .int .i64 s.level, .bool s.final] 23)).alloc (.cells #[.int .i64 e.term, .int .i64 e.kind, .int .i64 e.value] 50)) z 23
    simpa using this

/-- The end of Next. -/
def NextQ (w : World) (v : Value) (e : Ending) (w' : World) : Prop := e = .returned v ∧ Below w.heap.size w w'

set_option maxHeartbeats 1000000 in
theorem next_no (s : St) (e : En) (w : World) (h : rightB e = false) : Calls Try.prog 40 #[s.v, e.v] w fun e' w' => e' = .returned s.v ∧ Below w.heap.size w w' := by
  obtain ⟨t, k, v⟩ := e
  obtain ⟨a1, a2, a3, a4, a5⟩ := s
  dsimp only [En.v, St.v]
  have HN := NextW.new w ⟨a1, a2, a3, a4, a5⟩ ⟨t, k, v⟩ ⟨0, 0, 0, 0, false⟩
  dsimp only at HN
  go_enter Try.func40, Try.ntmps40
  go_wp2_with fail
  generalize ((w.alloc (.cells #[.int .i64 a1, .int .i64 a2, .int .i64 a3, .int .i64 a4, .bool a5] 23)).alloc (.cells #[.int .i64 t, .int .i64 k, .int .i64 v] 50)).alloc (.cells #[.int .i64 0, .int .i64 0, .int .i64 0, .int .i64 0, .bool false] 23) = w3 at *
  refine (right_any ⟨t, k, v⟩ _).mono ?_
  rintro e w4 ⟨rfl, hB⟩
  replace HN := HN.keep hB
  clear hB
  rw [h]
  obtain ⟨⟨s0, s1, s2, s3, s4⟩, sf⟩ := HN.s5
  obtain ⟨e0, e1, e2⟩ := HN.e3
  obtain ⟨⟨z0, z1, z2, z3, z4⟩, zf⟩ := HN.z5
  dsimp only at s0 s1 s2 s3 s4 e0 e1 e2 z0 z1 z2 z3 z4
  have zf0 := zf 0
  have zf1 := zf 1
  have zf2 := zf 2
  have zf3 := zf 3
  have zf4 := zf 4
  go_wp2
  refine bodyPost_ret (v := .agg #[.int .i64 a1, .int .i64 a2, .int .i64 a3, .int .i64 a4, .bool a5]) (by simp [results, Try.results40, go_sem, z0, z1, z2, z3, z4]) rfl ?_
  exact ⟨rfl, ((((HN.below.setCell (by simp; omega) _).setCell (by simp; omega) _).setCell (by simp; omega) _).setCell (by simp; omega) _).setCell (by simp; omega) _⟩

set_option maxHeartbeats 1000000 in
theorem next_no2 (s : St) (e : En) (w : World) (h : rightB e = true) (hf : fineB s = false) : Calls Try.prog 40 #[s.v, e.v] w fun e' w' => e' = .returned s.v ∧ Below w.heap.size w w' := by
  obtain ⟨t, k, v⟩ := e
  obtain ⟨a1, a2, a3, a4, a5⟩ := s
  dsimp only [En.v, St.v]
  have HN := NextW.new w ⟨a1, a2, a3, a4, a5⟩ ⟨t, k, v⟩ ⟨0, 0, 0, 0, false⟩
  dsimp only at HN
  go_enter Try.func40, Try.ntmps40
  go_wp2_with fail
  generalize ((w.alloc (.cells #[.int .i64 a1, .int .i64 a2, .int .i64 a3, .int .i64 a4, .bool a5] 23)).alloc (.cells #[.int .i64 t, .int .i64 k, .int .i64 v] 50)).alloc (.cells #[.int .i64 0, .int .i64 0, .int .i64 0, .int .i64 0, .bool false] 23) = w3 at *
  refine (right_any ⟨t, k, v⟩ _).mono ?_
  rintro e w4 ⟨rfl, hB⟩
  replace HN := HN.keep hB
  clear hB
  rw [h]
  obtain ⟨⟨s0, s1, s2, s3, s4⟩, sf⟩ := HN.s5
  obtain ⟨e0, e1, e2⟩ := HN.e3
  obtain ⟨⟨z0, z1, z2, z3, z4⟩, zf⟩ := HN.z5
  dsimp only at s0 s1 s2 s3 s4 e0 e1 e2 z0 z1 z2 z3 z4
  have zf0 := zf 0
  have zf1 := zf 1
  have zf2 := zf 2
  have zf3 := zf 3
  have zf4 := zf 4
  go_wp2_with fail
  refine (fine_any ⟨a1, a2, a3, a4, a5⟩ _).mono ?_
  rintro e w5 ⟨rfl, hB⟩
  replace HN := HN.keep hB
  clear hB
  rw [hf]
  clear s0 s1 s2 s3 s4 sf e0 e1 e2 z0 z1 z2 z3 z4 zf zf0 zf1 zf2 zf3 zf4
  obtain ⟨⟨s0, s1, s2, s3, s4⟩, sf⟩ := HN.s5
  obtain ⟨e0, e1, e2⟩ := HN.e3
  obtain ⟨⟨z0, z1, z2, z3, z4⟩, zf⟩ := HN.z5
  dsimp only at s0 s1 s2 s3 s4 e0 e1 e2 z0 z1 z2 z3 z4
  have zf0 := zf 0
  have zf1 := zf 1
  have zf2 := zf 2
  have zf3 := zf 3
  have zf4 := zf 4
  go_wp2
  refine bodyPost_ret (v := .agg #[.int .i64 a1, .int .i64 a2, .int .i64 a3, .int .i64 a4, .bool a5]) (by simp [results, Try.results40, go_sem, z0, z1, z2, z3, z4]) rfl ?_
  exact ⟨rfl, ((((HN.below.setCell (by simp; omega) _).setCell (by simp; omega) _).setCell (by simp; omega) _).setCell (by simp; omega) _).setCell (by simp; omega) _⟩

set_option maxHeartbeats 1000000 in
theorem next_no3 (s : St) (e : En) (w : World) (h : rightB e = true) (hf : fineB s = true) (hi : ¬ s.index < 1073741824) : Calls Try.prog 40 #[s.v, e.v] w fun e' w' => e' = .returned s.v ∧ Below w.heap.size w w' := by
  obtain ⟨t, k, v⟩ := e
  obtain ⟨a1, a2, a3, a4, a5⟩ := s
  dsimp only [En.v, St.v]
  dsimp only at hi
  have HN := NextW.new w ⟨a1, a2, a3, a4, a5⟩ ⟨t, k, v⟩ ⟨0, 0, 0, 0, false⟩
  dsimp only at HN
  go_enter Try.func40, Try.ntmps40
  go_wp2_with fail
  generalize ((w.alloc (.cells #[.int .i64 a1, .int .i64 a2, .int .i64 a3, .int .i64 a4, .bool a5] 23)).alloc (.cells #[.int .i64 t, .int .i64 k, .int .i64 v] 50)).alloc (.cells #[.int .i64 0, .int .i64 0, .int .i64 0, .int .i64 0, .bool false] 23) = w3 at *
  refine (right_any ⟨t, k, v⟩ _).mono ?_
  rintro e w4 ⟨rfl, hB⟩
  replace HN := HN.keep hB
  clear hB
  rw [h]
  obtain ⟨⟨s0, s1, s2, s3, s4⟩, sf⟩ := HN.s5
  obtain ⟨e0, e1, e2⟩ := HN.e3
  obtain ⟨⟨z0, z1, z2, z3, z4⟩, zf⟩ := HN.z5
  dsimp only at s0 s1 s2 s3 s4 e0 e1 e2 z0 z1 z2 z3 z4
  have zf0 := zf 0
  have zf1 := zf 1
  have zf2 := zf 2
  have zf3 := zf 3
  have zf4 := zf 4
  go_wp2_with fail
  refine (fine_any ⟨a1, a2, a3, a4, a5⟩ _).mono ?_
  rintro e w5 ⟨rfl, hB⟩
  replace HN := HN.keep hB
  clear hB
  rw [hf]
  clear s0 s1 s2 s3 s4 sf e0 e1 e2 z0 z1 z2 z3 z4 zf zf0 zf1 zf2 zf3 zf4
  obtain ⟨⟨s0, s1, s2, s3, s4⟩, sf⟩ := HN.s5
  obtain ⟨e0, e1, e2⟩ := HN.e3
  obtain ⟨⟨z0, z1, z2, z3, z4⟩, zf⟩ := HN.z5
  dsimp only at s0 s1 s2 s3 s4 e0 e1 e2 z0 z1 z2 z3 z4
  have zf0 := zf 0
  have zf1 := zf 1
  have zf2 := zf 2
  have zf3 := zf 3
  have zf4 := zf 4
  go_wp2
  refine bodyPost_ret (v := .agg #[.int .i64 a1, .int .i64 a2, .int .i64 a3, .int .i64 a4, .bool a5]) (by simp [results, Try.results40, go_sem, z0, z1, z2, z3, z4]) rfl ?_
  exact ⟨rfl, ((((HN.below.setCell (by simp; omega) _).setCell (by simp; omega) _).setCell (by simp; omega) _).setCell (by simp; omega) _).setCell (by simp; omega) _⟩

set_option maxHeartbeats 1000000 in
theorem next_yes (s : St) (e : En) (w : World) (h : rightB e = true) (hf : fineB s = true) (hi : s.index < 1073741824) : Calls Try.prog 40 #[s.v, e.v] w fun e' w' => e' = .returned (nextS s e).v ∧ Below w.heap.size w w' := by
  have hi0 : 0 ≤ s.index := by
    rcases (fineB_iff s).1 hf with rfl | hh
    · simp [firstS]
    · omega
  have Hn := Lib.hid (show nextS s e = deedS e.kind e.value { s with index := s.index + 1, term := e.term } from if_pos ⟨h, hf, hi⟩)
  generalize nextS s e = ns at *
  obtain ⟨t, k, v⟩ := e
  obtain ⟨a1, a2, a3, a4, a5⟩ := s
  dsimp only [En.v, St.v]
  dsimp only at hi hi0
  have HN := NextW.new w ⟨a1, a2, a3, a4, a5⟩ ⟨t, k, v⟩ ⟨0, 0, 0, 0, false⟩
  dsimp only at HN
  go_enter Try.func40, Try.ntmps40
  go_wp2_with fail
  generalize ((w.alloc (.cells #[.int .i64 a1, .int .i64 a2, .int .i64 a3, .int .i64 a4, .bool a5] 23)).alloc (.cells #[.int .i64 t, .int .i64 k, .int .i64 v] 50)).alloc (.cells #[.int .i64 0, .int .i64 0, .int .i64 0, .int .i64 0, .bool false] 23) = w3 at *
  refine (right_any ⟨t, k, v⟩ _).mono ?_
  rintro e w4 ⟨rfl, hB⟩
  replace HN := HN.keep hB
  clear hB
  rw [h]
  obtain ⟨⟨s0, s1, s2, s3, s4⟩, sf⟩ := HN.s5
  obtain ⟨e0, e1, e2⟩ := HN.e3
  obtain ⟨⟨z0, z1, z2, z3, z4⟩, zf⟩ := HN.z5
  dsimp only at s0 s1 s2 s3 s4 e0 e1 e2 z0 z1 z2 z3 z4
  have zf0 := zf 0
  have zf1 := zf 1
  have zf2 := zf 2
  have zf3 := zf 3
  have zf4 := zf 4
  go_wp2_with fail
  refine (fine_any ⟨a1, a2, a3, a4, a5⟩ _).mono ?_
  rintro e w5 ⟨rfl, hB⟩
  replace HN := HN.keep hB
  clear hB
  rw [hf]
  clear s0 s1 s2 s3 s4 sf e0 e1 e2 z0 z1 z2 z3 z4 zf zf0 zf1 zf2 zf3 zf4
  obtain ⟨⟨s0, s1, s2, s3, s4⟩, sf⟩ := HN.s5
  obtain ⟨e0, e1, e2⟩ := HN.e3
  obtain ⟨⟨z0, z1, z2, z3, z4⟩, zf⟩ := HN.z5
  dsimp only at s0 s1 s2 s3 s4 e0 e1 e2 z0 z1 z2 z3 z4
  have zf0 := zf 0
  have zf1 := zf 1
  have zf2 := zf 2
  have zf3 := zf 3
  have zf4 := zf 4
  go_wp2
  have l0 := HN.s5.lt
  have l1 := HN.e3.lt
  have sf0 := sf 0
  have sf1 := sf 1
  refine region_flow 9 [6, 8] (fun _ b => b ≠ w.heap.size) ⟨by kernel_rfl, by kernel_rfl⟩ (fun wf HB => ?_)
  refine' wpF_lights [true, true, true, false, false, true] 31 _ (by decide +kernel) rfl (fun W hW => ?_) ?_
  rotate_left
  · obtain ⟨hcW, hfW⟩ := bCells (bTr HB hW)
    dsimp only [pickL]
    go_wp2
    exact Lend.ok
  refine' wpF_lightsG [false, false, false, true, true] 31 [6, 8] (fun b => b ≠ w.heap.size) _ (by decide +kernel) (by simp) rfl (fun W hW => ?_) ?_
  rotate_left
  · skip
    have hk := ((keepT HB).sub (fun _ _ _ => trivial)).trans hW
    have e0W := hk.cell (p := ⟨w.heap.size + 1, 0, none⟩) (by simp) e0
    dsimp only [pickL]
    go_wp2
    exact Lend.ok
  refine wpF_seal [false, false, false, false, false, false, true] 6 (by decide +kernel) rfl rfl ?_
  have c0F := ((bCells HB).1 _ 0 l0).trans s0
  have c1F := ((bCells HB).1 _ 1 l0).trans s1
  have f0F := ((bCells HB).2 _ 0 l0).trans sf0
  have f1F := ((bCells HB).2 _ 1 l0).trans sf1
  dsimp only [pickL]
  go_wp2_with fail
  refine ⟨(KeepB.refl _ _).setCell (by simp) _, ?_⟩
  refine' wpF_lightsG [false, false, false, false, false, false, false, true] 31 [8] (fun b => b ≠ w.heap.size) _ (by decide +kernel) (by simp) rfl (fun W hW => ?_) ?_
  rotate_left
  · skip
    dsimp only [pickL]
    go_wp2
    exact Lend.ok
  refine wpF_seal [false, false, false, false, false, false, false, false, true] 8 (by decide +kernel) rfl rfl ?_
  dsimp only [pickL]
  go_wp2_with fail
  refine ⟨(KeepB.refl _ _).setCell (by simp) _, ?_⟩
  refine wpF_end (by kernel_rfl) ?_
  replace HN := HN.keep HB
  have HN6 : NextW w ((wf.setCell ⟨w.heap.size, 0, none⟩ (.int .i64 (a1 + 1))).setCell ⟨w.heap.size, 1, none⟩ (.int .i64 t)) ⟨a1 + 1, t, a3, a4, a5⟩ ⟨t, k, v⟩ ⟨0, 0, 0, 0, false⟩ := by
    have hk : KeepB (fun b => b ≠ w.heap.size) wf ((wf.setCell ⟨w.heap.size, 0, none⟩ (.int .i64 (a1 + 1))).setCell ⟨w.heap.size, 1, none⟩ (.int .i64 t)) := ((KeepB.refl _ _).setCell (by simp) _).setCell (by simp) _
    have hs := HN.s5.set (s' := ⟨a1 + 1, a2, a3, a4, a5⟩) 0 (.int .i64 (a1 + 1)) ⟨_, HN.s5.1.1⟩ rfl rfl rfl rfl rfl
    exact ⟨below_keep HN.below hk HN.below.size (fun _ h => by omega), hs.set 1 _ ⟨_, hs.1.2.1⟩ rfl rfl rfl rfl rfl, HN.e3.keep hk (by simp), HN.z5.keep hk (by simp; omega)⟩
  generalize (wf.setCell ⟨w.heap.size, 0, none⟩ (.int .i64 (a1 + 1))).setCell ⟨w.heap.size, 1, none⟩ (.int .i64 t) = w6 at *
  clear s0 s1 s2 s3 s4 sf e0 e1 e2 z0 z1 z2 z3 z4 zf zf0 zf1 zf2 zf3 zf4 HN HB l0 l1 sf0 sf1 c0F c1F f0F f1F
  have hsum : 0 ≤ a3 ∧ a3 ≤ 1073741824 := by
    rcases (fineB_iff _).1 hf with hh | hh
    · injection hh with _ _ hh; omega
    · dsimp only at hh; omega
  have hr := h
  simp only [rightB, decide_eq_true_eq] at hr
  have hv : 0 ≤ v ∧ v ≤ 1073741824 := by omega
  have hkk : k = 0 ∨ k = 1 ∨ k = 2 ∨ k = 3 ∨ k = 4 := by omega
  clear hr h hf hi hi0
  obtain ⟨e0, e1, e2⟩ := HN6.e3
  dsimp only at e0 e1 e2
  have l0 := HN6.s5.lt
  have l1 := HN6.e3.lt
  go_wp2
  rcases hkk with rfl | rfl | rfl | rfl | rfl
  · refine region_flow 7 [6] (fun _ b => b ≠ w.heap.size) ⟨by kernel_rfl, by kernel_rfl⟩ (fun wf HB => ?_)
    refine' wpF_lightsG [false, true, true, false, true, true] 31 [6] (fun b => b ≠ w.heap.size) _ (by decide +kernel) (by simp) rfl (fun W hW => ?_) ?_
    rotate_left
    · skip
      have hk := ((keepT HB).sub (fun _ _ _ => trivial)).trans hW
      have e1W := hk.cell (p := ⟨w.heap.size + 1, 1, none⟩) (by simp) e1
      have e2W := hk.cell (p := ⟨w.heap.size + 1, 2, none⟩) (by simp) e2
      dsimp only [pickL]
      go_wp2
      exact Lend.ok
    refine wpF_call [true] 0 (by decide +kernel) rfl rfl ?_
    dsimp only [pickL]
    go_wp2_with fail
    refine (deeds_any _).mono ?_
    rintro e w7 ⟨r, rfl, hm, hB⟩
    go_wp2
    replace HB := bTr HB hB
    refine wpF_call [false, false, false, true] 3 (by decide +kernel) rfl rfl ?_
    have hl := look_deeds hm 0 false
    simp [deedsL, mget] at hl
    dsimp only [pickL]
    go_wp2_with fail
    go_wp2
    try (refine ⟨Below.refl _ _, ?_⟩)
    have HN7 := HN6.keep HB
    refine wpF_seal [false, false, false, false, false, false, true] 6 (by decide +kernel) rfl rfl ?_
    dsimp only [pickL]
    go_wp2_with fail
    refine (deed0 v ⟨a1 + 1, t, a3, a4, a5⟩ _ _ HN7.s5).mono ?_
    rintro e w8 ⟨rfl, h5, hk⟩
    go_wp2
    refine wpF_end (by kernel_rfl) ?_
    have HN8 : NextW w w8 (deedS 0 v ⟨a1 + 1, t, a3, a4, a5⟩) ⟨t, 0, v⟩ ⟨0, 0, 0, 0, false⟩ := ⟨below_keep HN7.below hk HN7.below.size (fun _ h => by omega), h5, HN7.e3.keep hk (by simp), HN7.z5.keep hk (by simp; omega)⟩
    rw [← Hn.out] at HN8
    clear HN6 HN7 h5 hk hB HB hm e0 e1 e2 l0 l1 Hn
    obtain ⟨b1, b2, b3, b4, b5⟩ := ns
    obtain ⟨⟨s0, s1, s2, s3, s4⟩, sf⟩ := HN8.s5
    obtain ⟨⟨z0, z1, z2, z3, z4⟩, zf⟩ := HN8.z5
    dsimp only at s0 s1 s2 s3 s4 z0 z1 z2 z3 z4
    have zf0 := zf 0
    have zf1 := zf 1
    have zf2 := zf 2
    have zf3 := zf 3
    have zf4 := zf 4
    go_wp2
    refine bodyPost_ret (v := .agg #[.int .i64 b1, .int .i64 b2, .int .i64 b3, .int .i64 b4, .bool b5]) (by simp [results, Try.results40, go_sem, z0, z1, z2, z3, z4]) rfl ?_
    exact ⟨rfl, ((((HN8.below.setCell (by simp; omega) _).setCell (by simp; omega) _).setCell (by simp; omega) _).setCell (by simp; omega) _).setCell (by simp; omega) _⟩
  · refine region_flow 7 [6] (fun _ b => b ≠ w.heap.size) ⟨by kernel_rfl, by kernel_rfl⟩ (fun wf HB => ?_)
    refine' wpF_lightsG [false, true, true, false, true, true] 31 [6] (fun b => b ≠ w.heap.size) _ (by decide +kernel) (by simp) rfl (fun W hW => ?_) ?_
    rotate_left
    · skip
      have hk := ((keepT HB).sub (fun _ _ _ => trivial)).trans hW
      have e1W := hk.cell (p := ⟨w.heap.size + 1, 1, none⟩) (by simp) e1
      have e2W := hk.cell (p := ⟨w.heap.size + 1, 2, none⟩) (by simp) e2
      dsimp only [pickL]
      go_wp2
      exact Lend.ok
    refine wpF_call [true] 0 (by decide +kernel) rfl rfl ?_
    dsimp only [pickL]
    go_wp2_with fail
    refine (deeds_any _).mono ?_
    rintro e w7 ⟨r, rfl, hm, hB⟩
    go_wp2
    replace HB := bTr HB hB
    refine wpF_call [false, false, false, true] 3 (by decide +kernel) rfl rfl ?_
    have hl := look_deeds hm 1 false
    simp [deedsL, mget] at hl
    dsimp only [pickL]
    go_wp2_with fail
    go_wp2
    try (refine ⟨Below.refl _ _, ?_⟩)
    have HN7 := HN6.keep HB
    refine wpF_seal [false, false, false, false, false, false, true] 6 (by decide +kernel) rfl rfl ?_
    dsimp only [pickL]
    go_wp2_with fail
    refine (deed1 v ⟨a1 + 1, t, a3, a4, a5⟩ hsum hv _ _ HN7.s5).mono ?_
    rintro e w8 ⟨rfl, h5, hk⟩
    go_wp2
    refine wpF_end (by kernel_rfl) ?_
    have HN8 : NextW w w8 (deedS 1 v ⟨a1 + 1, t, a3, a4, a5⟩) ⟨t, 1, v⟩ ⟨0, 0, 0, 0, false⟩ := ⟨below_keep HN7.below hk HN7.below.size (fun _ h => by omega), h5, HN7.e3.keep hk (by simp), HN7.z5.keep hk (by simp; omega)⟩
    rw [← Hn.out] at HN8
    clear HN6 HN7 h5 hk hB HB hm e0 e1 e2 l0 l1 Hn
    obtain ⟨b1, b2, b3, b4, b5⟩ := ns
    obtain ⟨⟨s0, s1, s2, s3, s4⟩, sf⟩ := HN8.s5
    obtain ⟨⟨z0, z1, z2, z3, z4⟩, zf⟩ := HN8.z5
    dsimp only at s0 s1 s2 s3 s4 z0 z1 z2 z3 z4
    have zf0 := zf 0
    have zf1 := zf 1
    have zf2 := zf 2
    have zf3 := zf 3
    have zf4 := zf 4
    go_wp2
    refine bodyPost_ret (v := .agg #[.int .i64 b1, .int .i64 b2, .int .i64 b3, .int .i64 b4, .bool b5]) (by simp [results, Try.results40, go_sem, z0, z1, z2, z3, z4]) rfl ?_
    exact ⟨rfl, ((((HN8.below.setCell (by simp; omega) _).setCell (by simp; omega) _).setCell (by simp; omega) _).setCell (by simp; omega) _).setCell (by simp; omega) _⟩
  · refine region_flow 7 [6] (fun _ b => b ≠ w.heap.size) ⟨by kernel_rfl, by kernel_rfl⟩ (fun wf HB => ?_)
    refine' wpF_lightsG [false, true, true, false, true, true] 31 [6] (fun b => b ≠ w.heap.size) _ (by decide +kernel) (by simp) rfl (fun W hW => ?_) ?_
    rotate_left
    · skip
      have hk := ((keepT HB).sub (fun _ _ _ => trivial)).trans hW
      have e1W := hk.cell (p := ⟨w.heap.size + 1, 1, none⟩) (by simp) e1
      have e2W := hk.cell (p := ⟨w.heap.size + 1, 2, none⟩) (by simp) e2
      dsimp only [pickL]
      go_wp2
      exact Lend.ok
    refine wpF_call [true] 0 (by decide +kernel) rfl rfl ?_
    dsimp only [pickL]
    go_wp2_with fail
    refine (deeds_any _).mono ?_
    rintro e w7 ⟨r, rfl, hm, hB⟩
    go_wp2
    replace HB := bTr HB hB
    refine wpF_call [false, false, false, true] 3 (by decide +kernel) rfl rfl ?_
    have hl := look_deeds hm 2 false
    simp [deedsL, mget] at hl
    dsimp only [pickL]
    go_wp2_with fail
    go_wp2
    try (refine ⟨Below.refl _ _, ?_⟩)
    have HN7 := HN6.keep HB
    refine wpF_seal [false, false, false, false, false, false, true] 6 (by decide +kernel) rfl rfl ?_
    dsimp only [pickL]
    go_wp2_with fail
    refine (deed2 v ⟨a1 + 1, t, a3, a4, a5⟩ _ _ HN7.s5).mono ?_
    rintro e w8 ⟨rfl, h5, hk⟩
    go_wp2
    refine wpF_end (by kernel_rfl) ?_
    have HN8 : NextW w w8 (deedS 2 v ⟨a1 + 1, t, a3, a4, a5⟩) ⟨t, 2, v⟩ ⟨0, 0, 0, 0, false⟩ := ⟨below_keep HN7.below hk HN7.below.size (fun _ h => by omega), h5, HN7.e3.keep hk (by simp), HN7.z5.keep hk (by simp; omega)⟩
    rw [← Hn.out] at HN8
    clear HN6 HN7 h5 hk hB HB hm e0 e1 e2 l0 l1 Hn
    obtain ⟨b1, b2, b3, b4, b5⟩ := ns
    obtain ⟨⟨s0, s1, s2, s3, s4⟩, sf⟩ := HN8.s5
    obtain ⟨⟨z0, z1, z2, z3, z4⟩, zf⟩ := HN8.z5
    dsimp only at s0 s1 s2 s3 s4 z0 z1 z2 z3 z4
    have zf0 := zf 0
    have zf1 := zf 1
    have zf2 := zf 2
    have zf3 := zf 3
    have zf4 := zf 4
    go_wp2
    refine bodyPost_ret (v := .agg #[.int .i64 b1, .int .i64 b2, .int .i64 b3, .int .i64 b4, .bool b5]) (by simp [results, Try.results40, go_sem, z0, z1, z2, z3, z4]) rfl ?_
    exact ⟨rfl, ((((HN8.below.setCell (by simp; omega) _).setCell (by simp; omega) _).setCell (by simp; omega) _).setCell (by simp; omega) _).setCell (by simp; omega) _⟩
  · refine region_flow 7 [6] (fun _ b => b ≠ w.heap.size) ⟨by kernel_rfl, by kernel_rfl⟩ (fun wf HB => ?_)
    refine' wpF_lightsG [false, true, true, false, true, true] 31 [6] (fun b => b ≠ w.heap.size) _ (by decide +kernel) (by simp) rfl (fun W hW => ?_) ?_
    rotate_left
    · skip
      have hk := ((keepT HB).sub (fun _ _ _ => trivial)).trans hW
      have e1W := hk.cell (p := ⟨w.heap.size + 1, 1, none⟩) (by simp) e1
      have e2W := hk.cell (p := ⟨w.heap.size + 1, 2, none⟩) (by simp) e2
      dsimp only [pickL]
      go_wp2
      exact Lend.ok
    refine wpF_call [true] 0 (by decide +kernel) rfl rfl ?_
    dsimp only [pickL]
    go_wp2_with fail
    refine (deeds_any _).mono ?_
    rintro e w7 ⟨r, rfl, hm, hB⟩
    go_wp2
    replace HB := bTr HB hB
    refine wpF_call [false, false, false, true] 3 (by decide +kernel) rfl rfl ?_
    have hl := look_deeds hm 3 false
    simp [deedsL, mget] at hl
    dsimp only [pickL]
    go_wp2_with fail
    go_wp2
    try (refine ⟨Below.refl _ _, ?_⟩)
    have HN7 := HN6.keep HB
    refine wpF_seal [false, false, false, false, false, false, true] 6 (by decide +kernel) rfl rfl ?_
    dsimp only [pickL]
    go_wp2_with fail
    refine (deed3 v ⟨a1 + 1, t, a3, a4, a5⟩ _ _ HN7.s5).mono ?_
    rintro e w8 ⟨rfl, h5, hk⟩
    go_wp2
    refine wpF_end (by kernel_rfl) ?_
    have HN8 : NextW w w8 (deedS 3 v ⟨a1 + 1, t, a3, a4, a5⟩) ⟨t, 3, v⟩ ⟨0, 0, 0, 0, false⟩ := ⟨below_keep HN7.below hk HN7.below.size (fun _ h => by omega), h5, HN7.e3.keep hk (by simp), HN7.z5.keep hk (by simp; omega)⟩
    rw [← Hn.out] at HN8
    clear HN6 HN7 h5 hk hB HB hm e0 e1 e2 l0 l1 Hn
    obtain ⟨b1, b2, b3, b4, b5⟩ := ns
    obtain ⟨⟨s0, s1, s2, s3, s4⟩, sf⟩ := HN8.s5
    obtain ⟨⟨z0, z1, z2, z3, z4⟩, zf⟩ := HN8.z5
    dsimp only at s0 s1 s2 s3 s4 z0 z1 z2 z3 z4
    have zf0 := zf 0
    have zf1 := zf 1
    have zf2 := zf 2
    have zf3 := zf 3
    have zf4 := zf 4
    go_wp2
    refine bodyPost_ret (v := .agg #[.int .i64 b1, .int .i64 b2, .int .i64 b3, .int .i64 b4, .bool b5]) (by simp [results, Try.results40, go_sem, z0, z1, z2, z3, z4]) rfl ?_
    exact ⟨rfl, ((((HN8.below.setCell (by simp; omega) _).setCell (by simp; omega) _).setCell (by simp; omega) _).setCell (by simp; omega) _).setCell (by simp; omega) _⟩
  · refine region_flow 7 [6] (fun _ b => b ≠ w.heap.size) ⟨by kernel_rfl, by kernel_rfl⟩ (fun wf HB => ?_)
    refine' wpF_lightsG [false, true, true, false, true, true] 31 [6] (fun b => b ≠ w.heap.size) _ (by decide +kernel) (by simp) rfl (fun W hW => ?_) ?_
    rotate_left
    · skip
      have hk := ((keepT HB).sub (fun _ _ _ => trivial)).trans hW
      have e1W := hk.cell (p := ⟨w.heap.size + 1, 1, none⟩) (by simp) e1
      have e2W := hk.cell (p := ⟨w.heap.size + 1, 2, none⟩) (by simp) e2
      dsimp only [pickL]
      go_wp2
      exact Lend.ok
    refine wpF_call [true] 0 (by decide +kernel) rfl rfl ?_
    dsimp only [pickL]
    go_wp2_with fail
    refine (deeds_any _).mono ?_
    rintro e w7 ⟨r, rfl, hm, hB⟩
    go_wp2
    replace HB := bTr HB hB
    refine wpF_call [false, false, false, true] 3 (by decide +kernel) rfl rfl ?_
    have hl := look_deeds hm 4 false
    simp [deedsL, mget] at hl
    dsimp only [pickL]
    go_wp2_with fail
    go_wp2
    try (refine ⟨Below.refl _ _, ?_⟩)
    have HN7 := HN6.keep HB
    refine wpF_seal [false, false, false, false, false, false, true] 6 (by decide +kernel) rfl rfl ?_
    dsimp only [pickL]
    go_wp2_with fail
    refine (deed4 v ⟨a1 + 1, t, a3, a4, a5⟩ _ _ HN7.s5).mono ?_
    rintro e w8 ⟨rfl, h5, hk⟩
    go_wp2
    refine wpF_end (by kernel_rfl) ?_
    have HN8 : NextW w w8 (deedS 4 v ⟨a1 + 1, t, a3, a4, a5⟩) ⟨t, 4, v⟩ ⟨0, 0, 0, 0, false⟩ := ⟨below_keep HN7.below hk HN7.below.size (fun _ h => by omega), h5, HN7.e3.keep hk (by simp), HN7.z5.keep hk (by simp; omega)⟩
    rw [← Hn.out] at HN8
    clear HN6 HN7 h5 hk hB HB hm e0 e1 e2 l0 l1 Hn
    obtain ⟨b1, b2, b3, b4, b5⟩ := ns
    obtain ⟨⟨s0, s1, s2, s3, s4⟩, sf⟩ := HN8.s5
    obtain ⟨⟨z0, z1, z2, z3, z4⟩, zf⟩ := HN8.z5
    dsimp only at s0 s1 s2 s3 s4 z0 z1 z2 z3 z4
    have zf0 := zf 0
    have zf1 := zf 1
    have zf2 := zf 2
    have zf3 := zf 3
    have zf4 := zf 4
    go_wp2
    refine bodyPost_ret (v := .agg #[.int .i64 b1, .int .i64 b2, .int .i64 b3, .int .i64 b4, .bool b5]) (by simp [results, Try.results40, go_sem, z0, z1, z2, z3, z4]) rfl ?_
    exact ⟨rfl, ((((HN8.below.setCell (by simp; omega) _).setCell (by simp; omega) _).setCell (by simp; omega) _).setCell (by simp; omega) _).setCell (by simp; omega) _⟩

/-- The program's Next. -/
theorem next_any (s : St) (e : En) (w : World) : Calls Try.prog 40 #[s.v, e.v] w fun e' w' => e' = .returned (nextS s e).v ∧ Below w.heap.size w w' := by
  by_cases h : rightB e = true
  · by_cases hf : fineB s = true
    · by_cases hi : s.index < 1073741824
      · exact next_yes s e w h hf hi
      · have : nextS s e = s := if_neg (by simp [hi])
        rw [this]
        exact next_no3 s e w h hf hi
    · have : nextS s e = s := if_neg (by simp [hf])
      rw [this]
      exact next_no2 s e w h (by simpa using hf)
  · have : nextS s e = s := if_neg (by simp [h])
    rw [this]
    exact next_no s e w (by simpa using h)
end Go.Proofs.Ythngkojbokknfaa
/- Rows of ints. -/
namespace Go.Proofs.Ythngkojbokknfaa
open Go Go.RowKit

theorem elemI : Elem Try.prog 74 3 (.int .i64 0) 1 8 := ⟨Try.underlying74, by kernel_rfl, rfl, by omega⟩
theorem ivs_at {l : List Int} {i : Nat} {n : Int} (hi : l[i]? = some n) : (ivs l)[i]? = some (.int .i64 n) := by
  unfold ivs; rw [List.getElem?_map, hi]; rfl
theorem Rd.int {w : World} {A : Option Addr} {l : List Int} (h : Rd w A (ivs l)) {k : Nat} (hk : k < l.length) :
    ∃ b o x, A = some ⟨b, o, none⟩ ∧ b < w.heap.size ∧ w.cell? ⟨b, o + k, none⟩ = some (.int .i64 x) ∧ l[k]? = some x := by
  have hu : (ivs l)[k]? = some (iv l[k]) := by simp [ivs, hk]
  obtain ⟨b, o, e, hb, hc⟩ := h k _ hu
  exact ⟨b, o, l[k], e, hb, hc, by simp [hk]⟩
theorem Rd.to {w w' : World} {A : Option Addr} {xs : List Value} (h : Rd w A xs) (e : w' = w) : Rd w' A xs := e ▸ h
end Go.Proofs.Ythngkojbokknfaa
/- Entries as they lie in memory; states in a block of their own. -/
namespace Go.Proofs.Ythngkojbokknfaa
open Go Go.RowKit Go.Shelf

/-- Entries as cells. -/
def ens (l : List En) : List Value := l.flatMap fun e => [.int .i64 e.term, .int .i64 e.kind, .int .i64 e.value]
theorem ens_length (l : List En) : (ens l).length = 3 * l.length := by
  induction l with
  | nil => rfl
  | cons e l ih => simp only [ens, List.flatMap_cons, List.length_append, List.length_cons, List.length_nil] at ih ⊢; omega
theorem ens_drop (l : List En) (k : Nat) : ens (l.drop k) = (ens l).drop (3 * k) := by
  induction l generalizing k with
  | nil => simp [ens]
  | cons e l ih =>
    cases k with
    | zero => rfl
    | succ k =>
      rw [List.drop_succ_cons, ih, show 3 * (k + 1) = 3 * k + 3 by omega]
      simp [ens]
theorem ens_app (l m : List En) : ens (l ++ m) = ens l ++ ens m := by simp [ens]
theorem Rd.entry {w : World} {A : Option Addr} {l : List En} (h : Rd w A (ens l)) {k : Nat} (hk : k < l.length) :
    ∃ b o e, A = some ⟨b, o, none⟩ ∧ b < w.heap.size ∧ l[k]? = some e ∧ w.cell? ⟨b, o + k * 3, none⟩ = some (.int .i64 e.term) ∧ w.cell? ⟨b, o + k * 3 + 1, none⟩ = some (.int .i64 e.kind) ∧ w.cell? ⟨b, o + k * 3 + 2, none⟩ = some (.int .i64 e.value) := by
  have hd : (ens l).drop (3 * k) = ens (l.drop k) := (ens_drop l k).symm
  rw [List.drop_eq_getElem_cons hk] at hd
  have e0 : (ens l)[k * 3]? = some (.int .i64 l[k].term) := by
    have := List.getElem?_drop (xs := ens l) (i := 3 * k) (j := 0)
    rw [hd] at this
    rw [show k * 3 = 3 * k + 0 by omega, ← this]; rfl
  have e1 : (ens l)[k * 3 + 1]? = some (.int .i64 l[k].kind) := by
    have := List.getElem?_drop (xs := ens l) (i := 3 * k) (j := 1)
    rw [hd] at this
    rw [show k * 3 + 1 = 3 * k + 1 by omega, ← this]; rfl
  have e2 : (ens l)[k * 3 + 2]? = some (.int .i64 l[k].value) := by
    have := List.getElem?_drop (xs := ens l) (i := 3 * k) (j := 2)
    rw [hd] at this
    rw [show k * 3 + 2 = 3 * k + 2 by omega, ← this]; rfl
  obtain ⟨b, o, rfl, hb, c0⟩ := h _ _ e0
  obtain ⟨b1, o1, h1, _, c1⟩ := h _ _ e1
  obtain ⟨b2, o2, h2, _, c2⟩ := h _ _ e2
  simp only [Option.some.injEq, Addr.mk.injEq, and_true] at h1 h2
  obtain ⟨rfl, rfl⟩ := h1
  obtain ⟨rfl, rfl⟩ := h2
  exact ⟨b, o, l[k], rfl, hb, List.getElem?_eq_getElem hk, c0, by rw [Nat.add_assoc]; exact c1, by rw [Nat.add_assoc]; exact c2⟩
/-- The states behind each. -/
def scanS (s : St) : List En → List St
  | [] => []
  | e :: l => nextS s e :: scanS (nextS s e) l
theorem scanS_length (s : St) (l : List En) : (scanS s l).length = l.length := by
  induction l generalizing s with
  | nil => rfl
  | cons e l ih => simp [scanS, ih]
theorem scanS_at (s : St) (l : List En) (k : Nat) (e : En) (h : l[k]? = some e) : (scanS s l)[k]? = some (nextS (allS s (l.take k)) e) := by
  induction l generalizing s k with
  | nil => simp at h
  | cons d l ih =>
    cases k with
    | zero => simp at h; subst h; rfl
    | succ k => simpa [scanS, allS] using ih (nextS s d) k (by simpa using h)
theorem allS_take (s : St) (l : List En) (k : Nat) (e : En) (h : l[k]? = some e) : allS s (l.take (k + 1)) = nextS (allS s (l.take k)) e := by
  rw [List.take_add_one, h]; exact allS_snoc _ _ _

theorem slice1 (b o m ck : Nat) (h : 1 ≤ m) (h2 : m ≤ ck) (h3 : ck ≤ maxLen) (W : World) : (Instr.sliceAt 24 (.slice (some ⟨b, o, none⟩) m ck) (some (.int .i64 1)) none none).run Try.prog W = .ok (.slice (if ck = 1 then some ⟨b, o, none⟩ else some (Addr.add ⟨b, o, none⟩ (1 * 3))) (m - 1) (ck - 1)) W := by
  unfold maxLen at h3
  have h1 : (1 : Int) ≤ m := by omega
  have h2 : (m : Int) ≤ ck := by omega
  by_cases hc : ck = 1
  · subst hc
    go_simp
  · go_simp
/-- A store of all five. -/
theorem Box5.setAll {w : World} {b : Nat} {s : St} (h : Box5 w b s) (n : St) :
    Box5 (((((w.setCell ⟨b, 0, none⟩ (.int .i64 n.index)).setCell ⟨b, 1, none⟩ (.int .i64 n.term)).setCell ⟨b, 2, none⟩ (.int .i64 n.sum)).setCell ⟨b, 3, none⟩ (.int .i64 n.level)).setCell ⟨b, 4, none⟩ (.bool n.final)) b n ∧
    KeepB (fun x => x ≠ b) w (((((w.setCell ⟨b, 0, none⟩ (.int .i64 n.index)).setCell ⟨b, 1, none⟩ (.int .i64 n.term)).setCell ⟨b, 2, none⟩ (.int .i64 n.sum)).setCell ⟨b, 3, none⟩ (.int .i64 n.level)).setCell ⟨b, 4, none⟩ (.bool n.final)) := by
  obtain ⟨a1, a2, a3, a4, a5⟩ := s
  obtain ⟨n1, n2, n3, n4, n5⟩ := n
  refine ⟨?_, (((((KeepB.refl _ _).setCell (by simp) _).setCell (by simp) _).setCell (by simp) _).setCell (by simp) _).setCell (by simp) _⟩
  have g0 := h.set (s' := ⟨n1, a2, a3, a4, a5⟩) 0 (.int .i64 n1) ⟨_, h.1.1⟩ rfl rfl rfl rfl rfl
  have g1 := g0.set (s' := ⟨n1, n2, a3, a4, a5⟩) 1 (.int .i64 n2) ⟨_, g0.1.2.1⟩ rfl rfl rfl rfl rfl
  have g2 := g1.set (s' := ⟨n1, n2, n3, a4, a5⟩) 2 (.int .i64 n3) ⟨_, g1.1.2.2.1⟩ rfl rfl rfl rfl rfl
  have g3 := g2.set (s' := ⟨n1, n2, n3, n4, a5⟩) 3 (.int .i64 n4) ⟨_, g2.1.2.2.2.1⟩ rfl rfl rfl rfl rfl
  exact g3.set (s' := ⟨n1, n2, n3, n4, n5⟩) 4 (.bool n5) ⟨_, g3.1.2.2.2.2⟩ rfl rfl rfl rfl rfl

theorem Box5.of_heap {w : World} {g : Nat} {s : St} {T : TypeId} (h : w.heap[g]? = some (.cells #[.int .i64 s.index, .int .i64 s.term, .int .i64 s.sum, .int .i64 s.level, .bool s.final] T)) : Box5 w g s := by
  have hc : ∀ j, w.cell? ⟨g, j, none⟩ = (#[.int .i64 s.index, .int .i64 s.term, .int .i64 s.sum, .int .i64 s.level, .bool s.final] : Array Value)[j]? := fun j => by
    rw [cell_of_row _ _ _ _ T (0, 0) h]
  refine ⟨⟨?_, ?_, ?_, ?_, ?_⟩, fun j => ?_⟩
  · rw [hc]; rfl
  · rw [hc]; rfl
  · rw [hc]; rfl
  · rw [hc]; rfl
  · rw [hc]; rfl
  · simp [World.frozen?, h]
theorem Box5.alloc {w : World} {g : Nat} {s : St} (h : Box5 w g s) (o : Obj) : Box5 (w.alloc o) g s := h.keep ((KeepB.refl (fun _ => True) w).alloc o) trivial
theorem elemE : Elem Try.prog 24 50 (.agg #[.int .i64 0, .int .i64 0, .int .i64 0]) 3 24 := ⟨Try.underlying24, by kernel_rfl, rfl, by omega⟩
theorem ens_one (l : List En) : ∀ u ∈ ens l, u.oneCell' = true := by
  intro u hu
  simp only [ens, List.mem_flatMap, List.mem_cons, List.not_mem_nil, or_false] at hu
  obtain ⟨e, _, rfl | rfl | rfl⟩ := hu <;> rfl

end Go.Proofs.Ythngkojbokknfaa
/- Arguments opened: states, entries, rows of these and of numbers. -/
namespace Go.Proofs.Ythngkojbokknfaa
open Go Go.ChangeShapes Go.WideShapes Go.ChangeAt Go.RowKit

theorem choose_below {α : Type} [Inhabited α] {n : Nat} {p : Nat → α → Prop} (h : ∀ r, r < n → ∃ x, p r x) : ∃ f : Nat → α, ∀ r, r < n → p r (f r) :=
  ⟨fun r => if hr : r < n then (h r hr).choose else default, fun r hrc => by simp only [hrc, dif_pos]; exact (h r hrc).choose_spec⟩
instance : Inhabited En := ⟨⟨0, 0, 0⟩⟩
instance : Inhabited St := ⟨⟨0, 0, 0, 0, false⟩⟩

section
variable {H : Type} {enc : TypeId × Value → H} {W : World} {base0 : Nat} {sp : Nat → Bool} {held : Bool} {base : Nat}

theorem trod_entry {fuel : Nat} {cs : List Value} {x : DataW H × List MemPlace} (h : DataW.trod enc Try.prog W base0 sp held fuel 50 cs = some x) : ∃ e : En, e.ok ∧ cs = [.int .i64 e.term, .int .i64 e.kind, .int .i64 e.value] := by
  obtain ⟨xs, n, _, _, hl, hlen, hf⟩ := DataW.trod_struct Try.underlying50 h
  rw [show Try.prog.cellsOf 50 = 3 by kernel_rfl] at hl
  have hlen' : xs.length = 3 := hlen
  have hc : Try.prog.cellsOf 3 = 1 := by kernel_rfl
  match cs, hl with
  | [c0, c1, c2], _ =>
    match xs, hlen' with
    | [y0, y1, y2], _ =>
      have h0 : DataW.trod enc Try.prog W base0 sp held n 3 [c0] = some y0 := by simpa [hc] using hf 0 _ rfl
      have h1 : DataW.trod enc Try.prog W base0 sp held n 3 [c1] = some y1 := by simpa [hc] using hf 1 _ rfl
      have h2 : DataW.trod enc Try.prog W base0 sp held n 3 [c2] = some y2 := by simpa [hc] using hf 2 _ rfl
      obtain ⟨a0, e0, _, w0⟩ := DataW.trod_int Try.underlying3 h0
      obtain ⟨a1, e1, _, w1⟩ := DataW.trod_int Try.underlying3 h1
      obtain ⟨a2, e2, _, w2⟩ := DataW.trod_int Try.underlying3 h2
      simp only [List.cons.injEq, and_true] at e0 e1 e2
      subst e0 e1 e2
      exact ⟨⟨a0, a1, a2⟩, ⟨bounds_i64 w0, bounds_i64 w1, bounds_i64 w2⟩, rfl⟩
theorem trod_state {fuel : Nat} {cs : List Value} {x : DataW H × List MemPlace} (h : DataW.trod enc Try.prog W base0 sp held fuel 23 cs = some x) : ∃ s : St, s.ok ∧ cs = [.int .i64 s.index, .int .i64 s.term, .int .i64 s.sum, .int .i64 s.level, .bool s.final] := by
  obtain ⟨xs, n, _, _, hl, hlen, hf⟩ := DataW.trod_struct Try.underlying23 h
  rw [show Try.prog.cellsOf 23 = 5 by kernel_rfl] at hl
  have hlen' : xs.length = 5 := hlen
  have hc : Try.prog.cellsOf 3 = 1 := by kernel_rfl
  have hcb : Try.prog.cellsOf 4 = 1 := by kernel_rfl
  match cs, hl with
  | [c0, c1, c2, c3, c4], _ =>
    match xs, hlen' with
    | [y0, y1, y2, y3, y4], _ =>
      have h0 : DataW.trod enc Try.prog W base0 sp held n 3 [c0] = some y0 := by simpa [hc] using hf 0 _ rfl
      have h1 : DataW.trod enc Try.prog W base0 sp held n 3 [c1] = some y1 := by simpa [hc] using hf 1 _ rfl
      have h2 : DataW.trod enc Try.prog W base0 sp held n 3 [c2] = some y2 := by simpa [hc] using hf 2 _ rfl
      have h3 : DataW.trod enc Try.prog W base0 sp held n 3 [c3] = some y3 := by simpa [hc] using hf 3 _ rfl
      have h4 : DataW.trod enc Try.prog W base0 sp held n 4 [c4] = some y4 := by simpa [hcb] using hf 4 _ rfl
      obtain ⟨a0, e0, _, w0⟩ := DataW.trod_int Try.underlying3 h0
      obtain ⟨a1, e1, _, w1⟩ := DataW.trod_int Try.underlying3 h1
      obtain ⟨a2, e2, _, w2⟩ := DataW.trod_int Try.underlying3 h2
      obtain ⟨a3, e3, _, w3⟩ := DataW.trod_int Try.underlying3 h3
      obtain ⟨a4, e4, _⟩ := DataW.trod_bool Try.underlying4 h4
      simp only [List.cons.injEq, and_true] at e0 e1 e2 e3 e4
      subst e0 e1 e2 e3 e4
      exact ⟨⟨a0, a1, a2, a3, a4⟩, ⟨bounds_i64 w0, bounds_i64 w1, bounds_i64 w2, bounds_i64 w3⟩, rfl⟩
theorem open_state {v : Value} {d : DataW H} {p : List MemPlace} (hval : Value.okWide Try.prog W .any base 23 v) (h1 : DataW.Trod enc Try.prog W base0 sp held 23 v d p) : ∃ s : St, s.ok ∧ v = s.v := by
  obtain ⟨cs, rfl, hsz⟩ := okWide_struct Try.underlying23 hval
  obtain ⟨fuel, hf⟩ := h1
  obtain ⟨s, hs, he⟩ := trod_state hf
  refine ⟨s, hs, ?_⟩
  simp only [Value.cells] at he
  obtain ⟨l⟩ := cs
  simp only at he
  subst he
  rfl

theorem trod_entries {fuel : Nat} {cs : List Value} {x : DataW H × List MemPlace} (h : DataW.trod enc Try.prog W base0 sp held fuel 24 cs = some x) :
    ∃ A c, ∃ l : List En, cs = [.slice A l.length c] ∧ l.length ≤ c ∧ c ≤ maxLen ∧ Rd W A (ens l) ∧ ∀ e ∈ l, e.ok := by
  have hc : Try.prog.cellsOf 50 = 3 := by kernel_rfl
  rcases DataW.trod_slice Try.underlying24 h with ⟨rfl, _⟩ | ⟨a, len, cap, elems, rest, n, _, rfl, _, _, hlc, hcm, hel, hi, _⟩
  · exact ⟨none, 0, [], rfl, Nat.le_refl _, Nat.zero_le _, Rd.nil _ _, by simp⟩
  · rw [hc] at hi
    have each : ∀ r, r < len → ∃ e : En, e.ok ∧ W.cell? (a.add (r * 3)) = some (.int .i64 e.term) ∧ W.cell? ((a.add (r * 3)).add 1) = some (.int .i64 e.kind) ∧ W.cell? ((a.add (r * 3)).add 2) = some (.int .i64 e.value) := fun r hr => by
      have h2 := hi r hr
      have h3 : elems[r]? = some (elems[r]'(by omega)) := List.getElem?_eq_getElem (by omega)
      rw [h3, Option.bind_eq_some_iff] at h2
      obtain ⟨cs, hcs, ht⟩ := h2
      obtain ⟨_, _, hcell⟩ := World.cells?_some hcs
      obtain ⟨e, he, rfl⟩ := trod_entry ht
      have g0 := hcell 0 (by omega)
      have g1 := hcell 1 (by omega)
      have g2 := hcell 2 (by omega)
      refine ⟨e, he, ?_, g1, g2⟩
      have : (a.add (r * 3)).add 0 = a.add (r * 3) := by simp [Addr.add]
      rw [this] at g0
      exact g0
    obtain ⟨f, hfs⟩ := choose_below each
    have hlen : ((List.range len).map f).length = len := by simp
    obtain ⟨ab, ao, spot⟩ := a
    refine ⟨some ⟨ab, ao, spot⟩, cap, (List.range len).map f, by rw [hlen], by omega, hcm, fun j u hj => ?_, fun e he => ?_⟩
    · have hjl : j < 3 * len := by
        have := (List.getElem?_eq_some_iff.1 hj).1
        rw [ens_length, hlen] at this
        exact this
      have hr : j / 3 < len := by omega
      obtain ⟨_, g0, g1, g2⟩ := hfs (j / 3) hr
      have hspot : spot = none := by
        have := World.cell?_spot (hfs 0 (by omega)).2.1
        simpa [Addr.add] using this
      subst hspot
      simp only [Addr.add_lit] at g0 g1 g2
      have hd : (ens ((List.range len).map f)).drop (3 * (j / 3)) = ens (((List.range len).map f).drop (j / 3)) := (ens_drop _ _).symm
      have hrl : j / 3 < ((List.range len).map f).length := by simpa using hr
      have hg : (ens ((List.range len).map f))[3 * (j / 3) + j % 3]? = (ens (((List.range len).map f)[j / 3]'hrl :: ((List.range len).map f).drop (j / 3 + 1)))[j % 3]? := by
        rw [← List.drop_eq_getElem_cons hrl, ← hd, List.getElem?_drop]
      rw [show 3 * (j / 3) + j % 3 = j by omega, hj] at hg
      simp only [List.getElem_map, List.getElem_range, ens, List.flatMap_cons] at hg
      have hb := World.block_lt_of_cell? W _ g0
      refine ⟨ab, ao, rfl, hb, ?_⟩
      have h3 : j % 3 = 0 ∨ j % 3 = 1 ∨ j % 3 = 2 := by omega
      rcases h3 with h3 | h3 | h3 <;> rw [h3] at hg <;> simp at hg <;> subst hg
      · rw [show ao + j = ao + j / 3 * 3 by omega]; exact g0
      · rw [show ao + j = ao + j / 3 * 3 + 1 by omega]; exact g1
      · rw [show ao + j = ao + j / 3 * 3 + 2 by omega]; exact g2
    · obtain ⟨r, hr, rfl⟩ := List.mem_map.1 he
      exact (hfs r (by simpa using hr)).1
theorem open_entries {v : Value} {d : DataW H} {p : List MemPlace} (hval : Value.okWide Try.prog W .any base 24 v) (h1 : DataW.Trod enc Try.prog W base0 sp held 24 v d p) :
    ∃ A c, ∃ l : List En, v = .slice A l.length c ∧ l.length ≤ c ∧ c ≤ maxLen ∧ Rd W A (ens l) ∧ ∀ e ∈ l, e.ok := by
  obtain ⟨a1, len, cap, rfl⟩ := okWide_slice Try.underlying24 hval
  obtain ⟨fuel, hf⟩ := h1
  obtain ⟨A, c, l, h, r⟩ := trod_entries hf
  simp only [Value.cells, List.cons.injEq, and_true] at h
  exact ⟨A, c, l, h, r⟩
end
end Go.Proofs.Ythngkojbokknfaa
/- A region that draws its order and in which one new variable may come up whenever: the rest is walked without it. -/
namespace Go.Proofs.Ythngkojbokknfaa
open Go Go.RowKit
section
variable {P : Program} {ops : Array Oper} {md : Region.Mode} {Q0 : Exit → Act → World → Prop} {Qs : List (Nat × Nat) → Array Bool → Act → World → Prop}

/-- Stretches of blocks that were made. -/
def pushI (a b : Nat) (L : List (Nat × Nat)) : List (Nat × Nat) := if a < b then (a, b) :: L else L
theorem mem_pushI {a b : Nat} {L : List (Nat × Nat)} {p : Nat × Nat} (h : p ∈ pushI a b L) : p = (a, b) ∨ p ∈ L := by
  unfold pushI at h; split at h
  · rcases List.mem_cons.1 h with h | h
    · exact .inl h
    · exact .inr h
  · exact .inr h
theorem pushI_same (a : Nat) (L : List (Nat × Nat)) : pushI a a L = L := by simp [pushI]

def outL (L : List (Nat × Nat)) (b : Nat) : Prop := ∀ p ∈ L, b < p.1 ∨ p.2 ≤ b
theorem outL_pushI {a b g : Nat} {L : List (Nat × Nat)} (h : outL (pushI a b L) g) : (g < a ∨ b ≤ g) ∧ outL L g := by
  unfold pushI at h
  split at h
  · exact ⟨h (a, b) (by simp), fun p hp => h p (by simp [hp])⟩
  · exact ⟨by omega, h⟩
theorem outL_ne {a b g x : Nat} {L : List (Nat × Nat)} (h : outL (pushI a b L) g) (h1 : a ≤ x) (h2 : x < b) : g ≠ x := by have := (outL_pushI h).1; omega
theorem outL_push {a b g : Nat} {L : List (Nat × Nat)} (h : outL L g) (hg : g < a ∨ b ≤ g) : outL (pushI a b L) g := fun p hp => by
  rcases mem_pushI hp with rfl | hp
  · exact hg
  · exact h p hp
theorem outL_nil (b : Nat) : outL [] b := fun p hp => by cases hp
theorem keepL_nil {w w' : World} (h : KeepB (outL []) w w') : Below w.heap.size w w' := h.to_below (Nat.le_refl _) (fun _ _ => outL_nil _)
/-- What stood before a step, and behind it, stood throughout. -/
theorem keepL_turn {L : List (Nat × Nat)} {w w1 w' W : World} (h : Below w.heap.size w w1) (h1 : KeepB (outL L) w1 w') (h2 : KeepB (outL (pushI w1.heap.size w'.heap.size L)) w' W) : KeepB (outL L) w W := by
  have a1 : KeepB (fun b => outL L b ∧ b < w1.heap.size) w w1 := KeepB.of_below h (fun _ hk _ => hk)
  have a2 : KeepB (fun b => outL L b ∧ b < w1.heap.size) w1 w' := h1.sub (fun _ _ h => h.1)
  have a3 : KeepB (fun b => outL L b ∧ b < w1.heap.size) w' W := h2.sub (fun _ _ h => outL_push h.1 (.inl h.2))
  exact ((a1.trans a2).trans a3).sub (fun b hb ho => ⟨ho, Nat.lt_of_lt_of_le hb h.size⟩)

/-- Whatever order is picked, however the world grows meanwhile; the stretches that are made are told. -/
def wpAnyL (P : Program) (md : Region.Mode) (ops : Array Oper) (Q0 : Exit → Act → World → Prop) (Qs : List (Nat × Nat) → Array Bool → Act → World → Prop) : Nat → Array Bool → List (Nat × Nat) → Act → World → Prop
  | 0, listed, L, a, w => Region.ready md ops listed = [] ∧ ∀ w1, Below w.heap.size w w1 → Qs L listed a w1
  | fuel + 1, listed, L, a, w => ∀ w1, Below w.heap.size w w1 → (Region.ready md ops listed = [] → Qs L listed a w1) ∧
    ∀ i ∈ Region.ready md ops listed, wpOp P ops (NoPanic Q0) i (fun a' w' => KeepB (outL L) w1 w' ∧ wpAnyL P md ops Q0 Qs fuel (listed.setIfInBounds i true) (pushI w1.heap.size w'.heap.size L) a' w') a w1
theorem wpAnyL.mono : ∀ {fuel : Nat} {listed : Array Bool} {L : List (Nat × Nat)} {a : Act} {w w' : World}, wpAnyL P md ops Q0 Qs fuel listed L a w → Below w.heap.size w w' → wpAnyL P md ops Q0 Qs fuel listed L a w'
  | 0, _, _, _, _, _, h, hb => ⟨h.1, fun w1 h1 => h.2 w1 (bTr hb h1)⟩
  | _ + 1, _, _, _, _, _, h, hb => fun w1 h1 => h w1 (bTr hb h1)
theorem wpAnyL_done {listed : Array Bool} {L : List (Nat × Nat)} {a : Act} {w : World} (hr : Region.ready md ops listed = []) (h : ∀ w1, Below w.heap.size w w1 → Qs L listed a w1) : ∀ fuel, wpAnyL P md ops Q0 Qs fuel listed L a w
  | 0 => ⟨hr, h⟩
  | _ + 1 => fun w1 h1 => ⟨fun _ => h w1 h1, by rw [hr]; simp⟩

theorem wpAnyL_first {i : Nat} {oi : Oper} {v : Value} (hi : ops[i]? = some oi) (hsel : ∀ (j : Nat) (o : Oper) cs b, ops[j]? = some o → o.op ≠ .select cs b) :
    ∀ (fuel : Nat) (listed : Array Bool) (L : List (Nat × Nat)) (a : Act) (w : World),
      (∀ j oj, ops[j]? = some oj → j ≠ i → listed.getD j true = false → (∀ e ∈ oj.after, Region.binds md e = true → e.on ≠ i) → oi.apart ops oj = true) →
      i ∈ Region.ready md ops listed → YieldsIf P ops (fun W => KeepB (outL L) w W) oi v a →
      wpAnyL P md ops Q0 Qs fuel (listed.setIfInBounds i true) L (a.put oi.dst v) w → wpAnyL P md ops Q0 Qs (fuel + 1) listed L a w := by
  have hQ : ∀ c a w, NoPanic Q0 (.panic c) (a.put oi.dst v) w → NoPanic Q0 (.panic c) a w := fun c a w h => h
  intro fuel
  induction fuel with
  | zero =>
    intro listed L a w hfree hr hy H w1 h1
    refine ⟨fun h => (by rw [h] at hr; cases hr), fun j hj => ?_⟩
    by_cases hji : j = i
    · subst hji; exact hy.wpOp hi (KeepB.of_below h1 (fun _ hk _ => hk)) ⟨KeepB.refl _ _, by rw [pushI_same]; exact H.mono h1⟩
    · have := ready_mono hj hji
      rw [H.1] at this
      cases this
  | succ fuel ih =>
    intro listed L a w hfree hr hy H w1 hw1
    refine ⟨fun h => (by rw [h] at hr; cases hr), fun j hj => ?_⟩
    by_cases hji : j = i
    · subst hji; exact hy.wpOp hi (KeepB.of_below hw1 (fun _ hk _ => hk)) ⟨KeepB.refl _ _, by rw [pushI_same]; exact H.mono hw1⟩
    · have h1 := (H w1 hw1).2 j (ready_mono hj hji)
      obtain ⟨hjun, oj, hoj, hall⟩ := mem_ready.1 hj
      have hnot : ∀ e ∈ oj.after, Region.binds md e = true → e.on ≠ i := fun e he hb heq => by
        have h1 := hall e he hb
        have h0 := (mem_ready.1 hr).1
        rw [heq] at h1
        rcases Nat.lt_or_ge i listed.size with h' | h'
        · simp [h'] at h0 h1; rw [h0] at h1; cases h1
        · simp [Array.getElem?_eq_none h'] at h1
      have h2 := wpOp_putIf hoj (hfree j oj hoj hji hjun hnot) (fun cs b => hsel i oi cs b hi) (fun cs b => hsel j oj cs b hoj) hQ hy h1
      have hfree' : ∀ k ok, ops[k]? = some ok → k ≠ i → (listed.setIfInBounds j true).getD k true = false →
          (∀ e ∈ ok.after, Region.binds md e = true → e.on ≠ i) → oi.apart ops ok = true := fun k ok hk hki hun hno => by
        refine hfree k ok hk hki ?_ hno
        by_cases hjk : j = k
        · subst hjk; exact hjun
        · rw [getD_set_ne true hjk] at hun; exact hun
      refine wpOp_mono (fun a' w' h3 => ⟨h3.2.1, ih (listed.setIfInBounds j true) _ a' w' hfree' (ready_mono hr (Ne.symm hji)) (h3.1.imp (fun ⟨x1, x2⟩ => ⟨x1, fun W hW => x2 W (keepL_turn hw1 h3.2.1 hW)⟩) id) ?_⟩) h2
      rw [Array.setIfInBounds_comm _ _ hji]
      exact h3.2.2

theorem wpAnyL_lightsI (hns : Region.noSelect ops = true) {A : Act} : ∀ (is : List Nat) (ls : List Oper) (fuel : Nat) (listed : Array Bool) (L : List (Nat × Nat)) (a : Act) (w : World),
    Sel ops is ls → lightsOk md ops a.tmps.size listed is ls = true →
    (∀ w1, KeepB (outL L) w w1 → wpList P ops (Lend A w1) ls a w1) → wpAnyL P md ops Q0 Qs fuel (listAll listed is) L A w → wpAnyL P md ops Q0 Qs (fuel + is.length) listed L a w
  | [], _ :: _, _, _, _, _, _, hf, _, _, _ => hf.elim
  | _ :: _, [], _, _, _, _, _, hf, _, _, _ => hf.elim
  | [], [], fuel, listed, L, a, w, hf, _, H, K => by
    obtain ⟨_, rfl, _⟩ := H w (KeepB.refl _ _)
    exact K
  | i :: is, o :: ls, fuel, listed, L, a, w, ⟨hi, hf⟩, hok, H, K => by
    simp only [lightsOk, Bool.and_eq_true] at hok
    obtain ⟨⟨⟨⟨hl, hr⟩, hfree⟩, hd⟩, hrest⟩ := hok
    have hall := lightsOk_all is ls hrest
    obtain ⟨d, hdst, hdsz, hdis⟩ : ∃ d, o.dst = some d ∧ d < a.tmps.size ∧ ∀ o' ∈ ls, o'.dst ≠ some d := by
      cases hdd : o.dst with
      | none => rw [hdd] at hd; cases hd
      | some d =>
        rw [hdd] at hd
        simp only [Bool.and_eq_true, decide_eq_true_eq, List.all_eq_true] at hd
        exact ⟨d, rfl, hd.1, fun o' ho => by simpa using hd.2 o' ho⟩
    cases hw : Region.wanted o (yielded ops a.tmps) with
    | true =>
      have step : ∀ w1, KeepB (outL L) w w1 → ∃ v, (execOp a.eval o).run P w1 = .ok (.value v) w1 ∧ wpList P ops (Lend A w1) ls (a.put o.dst v) w1 ∧ A.tmps[d]? = some v := fun w1 h1 => by
        have h := H w1 h1
        unfold wpList at h
        rw [if_pos hw] at h
        obtain ⟨v, u', hrun, hk⟩ := light_wp hl h
        obtain ⟨_, m1, m2, m3⟩ := light_run hl hrun
        obtain ⟨e1, e2, e3⟩ := lights_end ls _ _ hall hk
        obtain rfl := m3 (by omega) (by omega)
        refine ⟨v, hrun, hk, ?_⟩
        rw [e3 d hdis, hdst]
        simp [Act.put, hdsz]
      obtain ⟨v, _, _, hAv⟩ := step w (KeepB.refl _ _)
      have step2 : ∀ w1, KeepB (outL L) w w1 → (execOp a.eval o).run P w1 = .ok (.value v) w1 ∧ wpList P ops (Lend A w1) ls (a.put o.dst v) w1 := fun w1 h1 => by
        obtain ⟨v', h2, h3, h4⟩ := step w1 h1
        rw [hAv] at h4
        injection h4 with h4
        subst h4
        exact ⟨h2, h3⟩
      have := wpAnyL_lightsI hns is ls fuel (listed.setIfInBounds i true) L (a.put o.dst v) w hf (by rw [put_size]; exact hrest) (fun w1 h1 => (step2 w1 h1).2) K
      exact wpAnyL_first hi (Region.noSelect_spec hns) _ listed L a w (Region.free_spec hi hfree) (by simpa using hr) (.inl ⟨hw, fun w1 h1 => (step2 w1 h1).1⟩) this
    | false =>
      have := wpAnyL_lightsI hns is ls fuel (listed.setIfInBounds i true) L (a.put o.dst undef) w hf (by rw [put_size]; exact hrest) (fun w1 h1 => by
        have h := H w1 h1
        unfold wpList at h
        rw [if_neg (by rw [hw]; simp)] at h
        exact h) K
      exact wpAnyL_first hi (Region.noSelect_spec hns) _ listed L a w (Region.free_spec hi hfree) (by simpa using hr) (.inr ⟨hw, rfl⟩) this
theorem wpAnyL_lightsG (S : Nat → Prop) (m : List Bool) (sz : Nat) {l : List Oper} {a : Act} (A : Act) {w : World} {f : Nat} {listed : Array Bool} {L : List (Nat × Nat)} (hm : (m.length ≤ l.length ∧ Region.noSelect l.toArray = true ∧ (pickI m 0).length ≤ f ∧ lightsOk md l.toArray sz listed (pickI m 0) (pickL m l) = true)) (hS : ∀ b, b < w.heap.size → S b → outL L b) (hsz : a.tmps.size = sz)
    (H : ∀ w1, KeepB S w w1 → wpList P l.toArray (Lend A w1) (pickL m l) a w1) (K : wpAnyL P md l.toArray Q0 Qs (f - (pickI m 0).length) (listAll listed (pickI m 0)) L A w) : wpAnyL P md l.toArray Q0 Qs f listed L a w := by
  have e : f = (f - (pickI m 0).length) + (pickI m 0).length := by omega
  rw [e]
  subst hsz
  exact wpAnyL_lightsI hm.2.1 (pickI m 0) (pickL m l) _ listed L a w (sel_pick m l 0 hm.1 (fun j => by simp)) hm.2.2.2 (fun w1 h1 => H w1 (h1.sub hS)) K
theorem wpAnyL_lights (m : List Bool) (sz : Nat) {l : List Oper} {a : Act} (A : Act) {w : World} {f : Nat} {listed : Array Bool} (hm : (m.length ≤ l.length ∧ Region.noSelect l.toArray = true ∧ (pickI m 0).length ≤ f ∧ lightsOk md l.toArray sz listed (pickI m 0) (pickL m l) = true)) (hsz : a.tmps.size = sz)
    (H : ∀ w1, Below w.heap.size w w1 → wpList P l.toArray (Lend A w1) (pickL m l) a w1) (K : wpAnyL P md l.toArray Q0 Qs (f - (pickI m 0).length) (listAll listed (pickI m 0)) [] A w) : wpAnyL P md l.toArray Q0 Qs f listed [] a w :=
  wpAnyL_lightsG (outL []) m sz A hm (fun _ _ h => h) hsz (fun w1 h1 => H w1 (keepL_nil h1)) K
theorem wpAnyL_grow (S : Nat → Prop) (m : List Bool) (i : Nat) {o : Oper} {l : List Oper} {a : Act} {w : World} {f : Nat} {listed : Array Bool} {L : List (Nat × Nat)}
    (hr : (0 < f ∧ Region.ready md l.toArray listed = [i] ∧ pickL m l = [o] ∧ l.toArray[i]? = some o)) (hS : ∀ b, outL L b → S b)
    (H : ∀ w1, Below w.heap.size w w1 → wpList P l.toArray (fun e a' w' => e = .normal ∧ KeepB S w1 w' ∧ wpAnyL P md l.toArray Q0 Qs (f - 1) (listed.setIfInBounds i true) (pushI w1.heap.size w'.heap.size L) a' w') (pickL m l) a w1) :
    wpAnyL P md l.toArray Q0 Qs f listed L a w := by
  obtain ⟨hf, hr, hp, hi⟩ := hr
  obtain ⟨f, rfl⟩ : ∃ g, f = g + 1 := ⟨f - 1, by omega⟩
  intro w1 h1
  refine ⟨fun h0 => (by rw [hr] at h0; cases h0), fun j hj => ?_⟩
  rw [hr] at hj
  obtain rfl : j = i := by simpa using hj
  have h := H w1 h1
  rw [hp] at h
  exact wpOp_mono (fun a' w' h => ⟨h.1.sub (fun b _ hb => hS b hb), h.2⟩) (one_op hi h)
theorem wpAnyL_call (m : List Bool) (i : Nat) {o : Oper} {l : List Oper} {a : Act} {w : World} {f : Nat} {listed : Array Bool} {L : List (Nat × Nat)}
    (hr : (0 < f ∧ Region.ready md l.toArray listed = [i] ∧ pickL m l = [o] ∧ l.toArray[i]? = some o))
    (H : ∀ w1, Below w.heap.size w w1 → wpList P l.toArray (fun e a' w' => e = .normal ∧ Below w1.heap.size w1 w' ∧ wpAnyL P md l.toArray Q0 Qs (f - 1) (listed.setIfInBounds i true) (pushI w1.heap.size w'.heap.size L) a' w') (pickL m l) a w1) :
    wpAnyL P md l.toArray Q0 Qs f listed L a w := by
  obtain ⟨hf, hr, hp, hi⟩ := hr
  obtain ⟨f, rfl⟩ : ∃ g, f = g + 1 := ⟨f - 1, by omega⟩
  intro w1 h1
  refine ⟨fun h0 => (by rw [hr] at h0; cases h0), fun j hj => ?_⟩
  rw [hr] at hj
  obtain rfl : j = i := by simpa using hj
  have h := H w1 h1
  rw [hp] at h
  exact wpOp_mono (fun a' w' h => ⟨KeepB.of_below h.1 (fun _ hk _ => hk), h.2⟩) (one_op hi h)

theorem own_keep {S : Nat → Prop} {w w' : World} {base : Nat} {e : TypeId} {size : Nat} {v : Value} {n : Nat} {xs : List Value} (h : w.ownsRow base e size v n xs) (hk : KeepB S w w') (hs : ∀ b, v.ownBlock = some b → S b) : w'.ownsRow base e size v n xs := by
  obtain ⟨hl, h2⟩ := h
  refine ⟨hl, ?_⟩
  rcases h2 with h2 | ⟨g, cap, cur, rfl, h3, h4, h5, h6, h7⟩
  · exact .inl h2
  · exact .inr ⟨g, cap, cur, rfl, h3, hk.heap (hs g rfl) h4, h5, h6, h7⟩
theorem own_below {w w' : World} {base : Nat} {e : TypeId} {size : Nat} {v : Value} {n : Nat} {xs : List Value} (h : w.ownsRow base e size v n xs) (hb : Below w.heap.size w w') : w'.ownsRow base e size v n xs :=
  own_keep h (S := fun _ => True) (KeepB.of_below hb (fun _ hk _ => hk)) (fun _ _ => trivial)
/-- An empty row that the region makes. -/
theorem wpAnyL_empty (m : List Bool) (i : Nat) {o : Oper} {l : List Oper} {a : Act} {w : World} {f : Nat} {listed : Array Bool} {L : List (Nat × Nat)} (e : TypeId) (size : Nat)
    (hr : (0 < f ∧ Region.ready md l.toArray listed = [i] ∧ pickL m l = [o] ∧ l.toArray[i]? = some o)) (hgd : o.guard = none)
    (hrun : ∀ ρ w, (execOp ρ o).run P w = .ok (.value (.slice (some ⟨w.heap.size, 0, none⟩) 0 0)) (w.alloc (.cells #[] e)))
    (H : ∀ z W, w.heap.size ≤ z → W.heap.size = z + 1 → Below w.heap.size w W → W.ownsRow w.heap.size e size (.slice (some ⟨z, 0, none⟩) 0 0) 0 [] → (∀ b, outL (pushI z (z + 1) L) b → (Value.slice (some ⟨z, 0, none⟩) 0 0).ownBlock ≠ some b) →
      wpAnyL P md l.toArray Q0 Qs (f - 1) (listed.setIfInBounds i true) (pushI z (z + 1) L) (a.put o.dst (.slice (some ⟨z, 0, none⟩) 0 0)) W) :
    wpAnyL P md l.toArray Q0 Qs f listed L a w := by
  refine wpAnyL_call m i hr (fun W hW => ?_)
  rw [hr.2.2.1]
  refine wpList_plain hgd fun K hK => ?_
  unfold Oper.wp
  rw [hrun]
  refine hK _ _ ⟨rfl, (Below.refl _ _).alloc (Nat.le_refl _) _, ?_⟩
  rw [World.size_alloc]
  refine H _ _ hW.size (by simp) (bTr hW ((Below.refl _ _).alloc (Nat.le_refl _) _)) (World.ownsRow_lit W #[] 0 hW.size (by simp [maxLen]) (by simp)) (fun b hb he => outL_ne hb (Nat.le_refl _) (by omega) (by simpa [Value.ownBlock] using he.symm))
/-- An append onto a row of the region's own. -/
theorem wpAnyL_append (m : List Bool) (i : Nat) {o : Oper} {l : List Oper} {a : Act} {w : World} {f : Nat} {listed : Array Bool} {L : List (Nat × Nat)} (s x : Operand) {t e : TypeId} {z : Value} {size bytes base : Nat}
    (hr : (0 < f ∧ Region.ready md l.toArray listed = [i] ∧ pickL m l = [o] ∧ l.toArray[i]? = some o)) (hgd : o.guard = none)
    (ho : o.op = .call { callee := .builtin .append, args := #[s, x], argTypes := #[t, t] }) (E : Elem P t e z size bytes)
    {v : Value} {n : Nat} {xs : List Value} (hs : a.eval s = v) (hown : w.ownsRow base e size v n xs) (hL : ∀ b, outL L b → v.ownBlock ≠ some b)
    {A : Option Addr} {k c : Nat} {news : List Value} (hx : a.eval x = .slice A k c) (hlen : news.length = k * size) (hrd : Rd w A news) (h1 : ∀ u ∈ news, u.oneCell' = true)
    (h63 : n + k ≤ maxLen) (hbytes : (n + k) * bytes ≤ 140737488355328) (hbase : base ≤ w.heap.size)
    (H : ∀ W v' W', Below w.heap.size w W → W'.ownsRow base e size v' (n + k) (xs ++ news) → KeepB (fun b => v.ownBlock ≠ some b) w W' → Below base w W' → (∀ b, outL (pushI W.heap.size W'.heap.size L) b → v'.ownBlock ≠ some b) →
      wpAnyL P md l.toArray Q0 Qs (f - 1) (listed.setIfInBounds i true) (pushI W.heap.size W'.heap.size L) (a.put o.dst v') W') :
    wpAnyL P md l.toArray Q0 Qs f listed L a w := by
  refine wpAnyL_grow (fun b => v.ownBlock ≠ some b) m i hr hL (fun W hW => ?_)
  rw [hr.2.2.1]
  have hownW := own_below hown hW
  refine list_append_rd hgd s x ho E hs hownW hx hlen (hrd.below hW) h1 h63 hbytes (Nat.le_trans hbase hW.size) ?_
  intro v' W' hown' hg hloc
  have hk1 : KeepB (fun b => v.ownBlock ≠ some b) W W' := (KeepB.refl _ _).grown hg (fun k hk _ hne => hne hk)
  have hk0 : KeepB (fun b => v.ownBlock ≠ some b) w W := KeepB.of_below hW (fun _ hk _ => hk)
  have hb : Below base w W' := bGrow (hW.mono hbase) hg (Nat.le_trans hbase hW.size) hownW
  refine ⟨rfl, hk1, H W v' W' hW hown' (hk0.trans hk1) hb fun b hb he => ?_⟩
  have h2 := outL_pushI hb
  rcases hloc with hl | hl
  · exact hL b h2.2 (hl ▸ he)
  · obtain rfl : W.heap.size = b := Option.some.inj (hl.symm.trans he)
    have hlt := (hown'.lt _ he).2
    have := h2.1
    omega

theorem wpAny_more {Q : Exit → Act → World → Prop} : ∀ (n : Nat) (R : Array Bool) (a : Act) (w : World), wpAny P md ops Q n R a w → wpAny P md ops Q (n + 1) R a w
  | 0, _, _, _, h => ⟨fun _ => h.2, by rw [h.1]; simp⟩
  | n + 1, _, _, _, h => ⟨h.1, fun i hi => wpOp_mono (fun a' w' h' => wpAny_more n _ a' w' h') (h.2 i hi)⟩
theorem wpAny_mores {Q : Exit → Act → World → Prop} (n k : Nat) (R : Array Bool) (a : Act) (w : World) (h : wpAny P md ops Q n R a w) : wpAny P md ops Q (n + k) R a w := by
  induction k with
  | zero => exact h
  | succ k ih => exact wpAny_more _ _ _ _ ih

/-- An operation that is apart from what has been put. -/
theorem wpOp_into {j : Nat} {oi oj : Oper} {v : Value} (hj : ops[j]? = some oj) (hap : oi.apart ops oj = true) (hsj : ∀ cs b, oj.op ≠ .select cs b)
    {K : Act → World → Prop} {a : Act} {w : World} (h : wpOp P ops (NoPanic Q0) j K a w) :
    wpOp P ops (NoPanic Q0) j (fun a'' w' => ∃ a', a'' = a'.put oi.dst v ∧ K a' w') (a.put oi.dst v) w := by
  obtain ⟨h1, h2, h3⟩ := Oper.apart_spec hap
  unfold wpOp at *
  simp only [hj] at *
  rw [wanted_put oj a oi.dst v h1]
  split
  · rename_i hw
    simp only [hw, if_true] at h
    rcases h with h | ⟨hasks, hlets⟩
    case inr => exact .inr ⟨by unfold Oper.asks at *; rw [execOp_put oj hsj a oi.dst v h1]; exact hasks, hlets⟩
    refine .inl ?_
    unfold Oper.wp at *
    rw [execOp_put oj hsj a oi.dst v h1]
    generalize (execOp a.eval oj).run P w = r at *
    cases r with
    | ok n w' =>
      cases n <;> simp only [Oper.upon] at h ⊢
      case value u => exact ⟨_, (Act.put_comm a v u h2), h⟩
      case skip => exact ⟨_, (Act.put_comm a v undef h2), h⟩
      case defer d =>
        exact ⟨_, (congrArg (fun x => Act.put x oj.dst undef) (Act.put_defers a oi.dst v d)).trans (Act.put_comm _ v undef h2), h⟩
      case enter f args =>
        refine Calls.mono h fun e w'' he => ?_
        cases e with
        | returned u => exact ⟨_, (Act.put_comm a v u h2), he⟩
        | panicked c => exact he
        | outgrown => exact he
      case row row args => exact Rows.mono h fun u w'' he => ⟨_, (Act.put_comm a v u h2), he⟩
    | halt x w' =>
      cases x <;> simp only [Oper.upon] at h ⊢
      case panic u => exact h
  · rename_i hw
    simp only [hw] at h
    exact ⟨_, (Act.put_comm a v undef h2), h⟩

/-- What the region has to be: q a new variable, s what waits for all. -/
def allocOk (md : Region.Mode) (ops : Array Oper) (q s d : Nat) : Bool :=
  (q != s) && decide (s < ops.size) && Region.noSelect ops &&
  (match ops[q]?, ops[s]? with
   | some oq, some os => (oq.dst == some d) && oq.guard.isNone && (oq.after.all fun e => !Region.binds md e) &&
       (List.range ops.size).all fun j => match ops[j]? with
         | some oj => (j == s || (os.after.any fun e => Region.binds md e && e.on == j)) && (oj.after.all fun e => !Region.binds md e || e.on != s) && (j == q || j == s || oq.apart ops oj)
         | none => true
   | _, _ => false)

theorem set_unset {R : Array Bool} {s : Nat} (h : R.getD s true = false) : (R.setIfInBounds s true).setIfInBounds s false = R := by
  apply Array.ext_getElem?
  intro i
  rcases Nat.lt_or_ge s R.size with hs | hs
  · have h' : R[s] = false := by simpa [hs] using h
    by_cases hi : s = i
    · subst hi; simp [hs, h']
    · simp [Array.getElem?_setIfInBounds_ne hi]
  · simp [hs] at h
theorem getD_set_same {R : Array Bool} {q : Nat} (_h : R.getD q true = false) : (R.setIfInBounds q true).getD q true = true := by
  rcases Nat.lt_or_ge q R.size with hs | hs <;> simp [hs]

variable {q s d n0 : Nat} {ob : Obj}
/-- What is to be shown when all but the last has come up. -/
def AllocEnd (P : Program) (md : Region.Mode) (ops : Array Oper) (Q0 : Exit → Act → World → Prop) (s d n0 : Nat) (ob : Obj) (L : List (Nat × Nat)) (listed : Array Bool) (a : Act) (w : World) : Prop :=
  ∀ g, n0 ≤ g → outL L g → w.heap[g]? = some ob → wpAny P md ops (NoPanic Q0) 1 (listed.setIfInBounds s false) (a.put (some d) (.pointer (some ⟨g, 0, none⟩))) w

theorem alloc_there {oq os : Oper} (hq : ops[q]? = some oq) (hs : ops[s]? = some os) (hd : oq.dst = some d)
    (hsel : ∀ (j : Nat) (o : Oper) cs b, ops[j]? = some o → o.op ≠ .select cs b)
    (hall : ∀ j oj, ops[j]? = some oj → (j ≠ s → ∃ e ∈ os.after, Region.binds md e = true ∧ e.on = j) ∧ (∀ e ∈ oj.after, Region.binds md e = true → e.on ≠ s) ∧ (j ≠ q → j ≠ s → oq.apart ops oj = true)) :
    ∀ (fuel : Nat) (R : Array Bool) (L : List (Nat × Nat)) (a : Act) (W : World) (g : Nat), R.getD s true = false → R.getD q true = true → n0 ≤ g → outL L g → W.heap[g]? = some ob →
      wpAnyL P md ops Q0 (AllocEnd P md ops Q0 s d n0 ob) fuel (R.setIfInBounds s true) L a W → wpAny P md ops (NoPanic Q0) (fuel + 1) R (a.put (some d) (.pointer (some ⟨g, 0, none⟩))) W := by
  intro fuel
  induction fuel with
  | zero =>
    intro R L a W g hRs hRq hg hL hz H
    have := H.2 W (Below.refl _ _) g hg hL hz
    rwa [set_unset hRs] at this
  | succ fuel ih =>
    intro R L a W g hRs hRq hg hL hz H
    by_cases hr : Region.ready md ops (R.setIfInBounds s true) = []
    · have := (H W (Below.refl _ _)).1 hr g hg hL hz
      rw [set_unset hRs] at this
      rw [show fuel + 1 + 1 = 1 + (fuel + 1) by omega]
      exact wpAny_mores 1 _ _ _ _ this
    · obtain ⟨j0, hj0⟩ : ∃ j, j ∈ Region.ready md ops (R.setIfInBounds s true) := by
        cases hh : Region.ready md ops (R.setIfInBounds s true) with
        | nil => exact (hr hh).elim
        | cons x xs => exact ⟨x, by simp⟩
      obtain ⟨hj0u, oj0, hoj0, hj0a⟩ := mem_ready.1 hj0
      have hj0s : j0 ≠ s := by
        rintro rfl
        rw [getD_set_same hRs] at hj0u; cases hj0u
      have hj0R : R.getD j0 true = false := by rwa [getD_set_ne true (Ne.symm hj0s)] at hj0u
      refine ⟨fun hnil => ?_, fun i hi => ?_⟩
      · exfalso
        have : j0 ∈ Region.ready md ops R := mem_ready.2 ⟨hj0R, oj0, hoj0, fun e he hb => by
          have := hj0a e he hb
          rwa [getD_set_ne false (Ne.symm ((hall j0 oj0 hoj0).2.1 e he hb))] at this⟩
        rw [hnil] at this; cases this
      · obtain ⟨hiu, oi, hoi, hia⟩ := mem_ready.1 hi
        have his : i ≠ s := by
          rintro rfl
          rw [hs] at hoi
          obtain rfl := Option.some.inj hoi
          obtain ⟨e, he, hb, heq⟩ := (hall j0 oj0 hoj0).1 hj0s
          have := hia e he hb
          rw [heq] at this
          rcases Nat.lt_or_ge j0 R.size with hh | hh
          · simp [hh] at this hj0R; rw [this] at hj0R; cases hj0R
          · simp [hh] at hj0R
        have hiq : i ≠ q := by rintro rfl; rw [hRq] at hiu; cases hiu
        have h2 := (H W (Below.refl _ _)).2 i (ready_mono hi his)
        have h3 := wpOp_into (v := .pointer (some ⟨g, 0, none⟩)) hoi ((hall i oi hoi).2.2 hiq his) (fun cs b => hsel i oi cs b hoi) h2
        rw [hd] at h3
        refine wpOp_mono (fun a'' w' h4 => ?_) h3
        obtain ⟨a', rfl, hb, hk⟩ := h4
        have hgl : g < W.heap.size := (Array.getElem?_eq_some_iff.1 hz).1
        refine ih (R.setIfInBounds i true) _ a' w' g (by rw [getD_set_ne true his]; exact hRs) (by rw [getD_set_ne true hiq]; exact hRq) hg (outL_push hL (.inl hgl)) (hb.heap hL hz) (by rw [Array.setIfInBounds_comm _ _ his]; exact hk)

theorem alloc_whenever {oq os : Oper} (hq : ops[q]? = some oq) (hs : ops[s]? = some os) (hqs : q ≠ s) (hd : oq.dst = some d) (hgd : oq.guard = none) (haf : ∀ e ∈ oq.after, Region.binds md e = false)
    (hsel : ∀ (j : Nat) (o : Oper) cs b, ops[j]? = some o → o.op ≠ .select cs b)
    (hall : ∀ j oj, ops[j]? = some oj → (j ≠ s → ∃ e ∈ os.after, Region.binds md e = true ∧ e.on = j) ∧ (∀ e ∈ oj.after, Region.binds md e = true → e.on ≠ s) ∧ (j ≠ q → j ≠ s → oq.apart ops oj = true))
    (hrun : ∀ ρ w, (execOp ρ oq).run P w = .ok (.value (.pointer (some ⟨w.heap.size, 0, none⟩))) (w.alloc ob)) :
    ∀ (fuel : Nat) (R : Array Bool) (L : List (Nat × Nat)) (a : Act) (W : World), R.getD s true = false → R.getD q true = false → n0 ≤ W.heap.size → (∀ p ∈ L, p.2 ≤ W.heap.size) →
      wpAnyL P md ops Q0 (AllocEnd P md ops Q0 s d n0 ob) fuel ((R.setIfInBounds q true).setIfInBounds s true) L a W → wpAny P md ops (NoPanic Q0) (fuel + 2) R a W := by
  have hqR : ∀ R : Array Bool, R.getD q true = false → q ∈ Region.ready md ops R := fun R h => mem_ready.2 ⟨h, oq, hq, fun e he hb => by rw [haf e he] at hb; cases hb⟩
  have hnots : ∀ (R : Array Bool), R.getD q true = false → ∀ i ∈ Region.ready md ops R, i ≠ s := fun R h i hi => by
    rintro rfl
    obtain ⟨_, oi, hoi, hia⟩ := mem_ready.1 hi
    rw [hs] at hoi
    obtain rfl := Option.some.inj hoi
    obtain ⟨e, he, hb, heq⟩ := (hall q oq hq).1 hqs
    have := hia e he hb
    rw [heq] at this
    rcases Nat.lt_or_ge q R.size with hh | hh
    · simp [hh] at this h; rw [this] at h; cases h
    · simp [hh] at h
  have hput : ∀ (fuel : Nat) (R : Array Bool) (L : List (Nat × Nat)) (a : Act) (W : World), R.getD s true = false → R.getD q true = false → n0 ≤ W.heap.size → (∀ p ∈ L, p.2 ≤ W.heap.size) →
      wpAnyL P md ops Q0 (AllocEnd P md ops Q0 s d n0 ob) fuel ((R.setIfInBounds q true).setIfInBounds s true) L a W → wpOp P ops (NoPanic Q0) q (wpAny P md ops (NoPanic Q0) (fuel + 1) (R.setIfInBounds q true)) a W := fun fuel R L a W hRs hRq hn hL H => by
    unfold wpOp
    simp only [hq]
    rw [if_pos (by simp [Region.wanted, hgd])]
    refine .inl ?_
    unfold Oper.wp
    rw [hrun]
    show wpAny P md ops (NoPanic Q0) (fuel + 1) (R.setIfInBounds q true) (a.put oq.dst _) (W.alloc ob)
    rw [hd]
    refine alloc_there hq hs hd hsel hall fuel _ L a _ W.heap.size (by rw [getD_set_ne true hqs]; exact hRs) (getD_set_same hRq) hn (fun p hp => .inr (hL p hp)) (heap_alloc_new W ob) ?_
    exact H.mono ((Below.refl _ _).alloc (Nat.le_refl _) _)
  intro fuel
  induction fuel with
  | zero =>
    intro R L a W hRs hRq hn hL H
    refine ⟨fun h => (by have := hqR R hRq; rw [h] at this; cases this), fun i hi => ?_⟩
    by_cases hiq : i = q
    · subst hiq; exact hput 0 R L a W hRs hRq hn hL H
    · have := ready_mono (ready_mono hi hiq) (hnots R hRq i hi)
      rw [H.1] at this; cases this
  | succ fuel ih =>
    intro R L a W hRs hRq hn hL H
    refine ⟨fun h => (by have := hqR R hRq; rw [h] at this; cases this), fun i hi => ?_⟩
    by_cases hiq : i = q
    · subst hiq; exact hput (fuel + 1) R L a W hRs hRq hn hL H
    · have his := hnots R hRq i hi
      have h2 := (H W (Below.refl _ _)).2 i (ready_mono (ready_mono hi hiq) his)
      refine wpOp_mono (fun a' w' h4 => ?_) h2
      obtain ⟨hb, hk⟩ := h4
      refine ih (R.setIfInBounds i true) _ a' w' (by rw [getD_set_ne true his]; exact hRs) (by rw [getD_set_ne true hiq]; exact hRq) (Nat.le_trans hn hb.size) (fun p hp => ?_) (by
        rw [Array.setIfInBounds_comm (i := i) (j := q) _ _ hiq, Array.setIfInBounds_comm (i := i) (j := s) _ _ his]; exact hk)
      rcases mem_pushI hp with rfl | hp
      · exact Nat.le_refl _
      · exact Nat.le_trans (hL p hp) hb.size

/-- A region in which one new variable may come up whenever; it does not panic. -/
theorem region_alloc {Q : Exit → Act → World → Prop} {id : Nat} {l : List Oper} {a : Act} {w : World} {oq : Oper} (n q s d : Nat) (ob : Obj)
    (hm : P.follows .mixedOrders = true ∧ l.length = n + 2 ∧ allocOk .any l.toArray q s d = true) (hq : l.toArray[q]? = some oq)
    (hrun : ∀ ρ w, (execOp ρ oq).run P w = .ok (.value (.pointer (some ⟨w.heap.size, 0, none⟩))) (w.alloc ob))
    (h : ∀ w1, Below w.heap.size w w1 → wpAnyL P .any l.toArray Q (AllocEnd P .any l.toArray Q s d w.heap.size ob) n (((Array.replicate (n + 2) false).setIfInBounds q true).setIfInBounds s true) [] a w1) : (Code.region id l.toArray true).wp P Q a w := by
  obtain ⟨hm, hl, hok⟩ := hm
  refine wp_region_noPanic (wp_region_any hm ?_)
  have hsz : l.toArray.size = n + 2 := by simpa using hl
  rw [hsz]
  simp only [allocOk, hq, Bool.and_eq_true, bne_iff_ne, decide_eq_true_eq] at hok
  obtain ⟨⟨⟨hqs, hss⟩, hns⟩, hrest⟩ := hok
  have hsk : l.toArray[s]? = some (l.toArray[s]'hss) := Array.getElem?_eq_getElem hss
  rw [hsk] at hrest
  simp only [Bool.and_eq_true, beq_iff_eq, Option.isNone_iff_eq_none] at hrest
  obtain ⟨⟨⟨hd, hgd⟩, haf⟩, hall⟩ := hrest
  have hql : q < l.toArray.size := (Array.getElem?_eq_some_iff.1 hq).1
  refine alloc_whenever hq hsk hqs hd hgd (fun e he => ?_) (Region.noSelect_spec hns) (fun j oj hj => ?_) hrun n _ [] a w.drew ?_ ?_ (n0 := w.heap.size) (Nat.le_refl _) (fun p hp => by cases hp) (h w.drew (Below.refl w.heap.size w).drew)
  · have := Array.all_eq_true_iff_forall_mem.1 haf e he
    simpa using this
  · have hjl : j < l.toArray.size := (Array.getElem?_eq_some_iff.1 hj).1
    have h1 := List.all_eq_true.1 hall j (List.mem_range.2 hjl)
    rw [hj] at h1
    simp only [Bool.and_eq_true, Bool.or_eq_true, beq_iff_eq] at h1
    obtain ⟨⟨h1, h2⟩, h3⟩ := h1
    refine ⟨fun hne => ?_, fun e he hb => ?_, fun hjq hjs => ?_⟩
    · rcases h1 with h1 | h1
      · exact (hne h1).elim
      · obtain ⟨e, he, hb⟩ := Array.any_eq_true'.1 h1
        simp only [Bool.and_eq_true, beq_iff_eq] at hb
        exact ⟨e, he, hb.1, hb.2⟩
    · have := Array.all_eq_true_iff_forall_mem.1 h2 e he
      simpa [hb] using this
    · rcases h3 with (h3 | h3) | h3
      · exact (hjq h3).elim
      · exact (hjs h3).elim
      · exact h3
  · have : s < n + 2 := by omega
    simp [this]
  · have : q < n + 2 := by omega
    simp [this]
/-- The last one: it stores into the new variable. -/
theorem alloc_end {l : List Oper} {Q : Exit → Act → World → Prop} {a : Act} {w : World} {listed : Array Bool} {f : Nat} (m : List Bool) {os : Oper} {L : List (Nat × Nat)}
    (hr : Region.ready md l.toArray listed = [] ∧ Region.ready md l.toArray (listed.setIfInBounds s false) = [s] ∧ Region.ready md l.toArray ((listed.setIfInBounds s false).setIfInBounds s true) = [])
    (ho : pickL m l = [os]) (hs : l.toArray[s]? = some os)
    (H : ∀ w1, Below w.heap.size w w1 → ∀ g, n0 ≤ g → outL L g → w1.heap[g]? = some ob → wpList P l.toArray (fun e a' w' => e = .normal ∧ Q .normal a' w') (pickL m l) (a.put (some d) (.pointer (some ⟨g, 0, none⟩))) w1) :
    wpAnyL P md l.toArray Q (AllocEnd P md l.toArray Q s d n0 ob) f listed L a w := by
  obtain ⟨h0, h1, h2⟩ := hr
  refine wpAnyL_done h0 (fun w1 hw1 g hg hL hz => ?_) f
  refine ⟨fun h => (by rw [h1] at h; cases h), fun i hi => ?_⟩
  rw [h1] at hi
  obtain rfl : i = s := by simpa using hi
  have h := H w1 hw1 g hg hL hz
  rw [ho] at h
  exact wpOp_mono (fun a' w' h' => ⟨h2, h'⟩) (one_op hs h)
/-- append in a plain region, whatever its guard, if it is wanted. -/
theorem list_append_rdW {rest : List Oper} {o : Oper} {a : Act} {w : World} {Q : Exit → Act → World → Prop} {base : Nat} {t e : TypeId} {z : Value} {size bytes : Nat} (hw : Region.wanted o (yielded ops a.tmps) = true) (s x : Operand)
    (ho : o.op = .call { callee := .builtin .append, args := #[s, x], argTypes := #[t, t] }) (E : Elem P t e z size bytes)
    {v : Value} {n : Nat} {xs : List Value} (hs : a.eval s = v) (hown : w.ownsRow base e size v n xs)
    {A : Option Addr} {m c : Nat} {news : List Value} (hx : a.eval x = .slice A m c) (hlen : news.length = m * size) (hr : Rd w A news) (h1 : ∀ u ∈ news, u.oneCell' = true)
    (h63 : n + m ≤ maxLen) (hbytes : (n + m) * bytes ≤ 140737488355328) (hbase : base ≤ w.heap.size)
    (h : ∀ v' w', w'.ownsRow base e size v' (n + m) (xs ++ news) → w.grownBy w' v.ownBlock → (v'.ownBlock = v.ownBlock ∨ v'.ownBlock = some w.heap.size) → wpList P ops Q rest (a.put o.dst v') w') : wpList P ops Q (o :: rest) a w :=
  wpList_step fun _ hK => by rw [if_pos hw]; exact wp_append_rd s x ho E hs hown hx hlen hr h1 h63 hbytes hbase fun v' w' h2 h3 h4 => hK _ _ (h v' w' h2 h3 h4)
end
end Go.Proofs.Ythngkojbokknfaa
/- A walk by laws alone. First part: what slots hold, as a list; what an operation that only reads yields. -/
namespace Go.Proofs.Ythngkojbokknfaa
open Go Go.RowKit

/-- What a slot holds. -/
def lk : List (Nat × Value) → Nat → Option Value
  | [], _ => none
  | (k, v) :: l, d => bif Nat.beq k d then some v else lk l d
/-- How many slots a frame has; what is deferred. -/
structure FS where
  n : Nat
  d : List Deferred
/-- A frame in which these slots hold this. -/
structure Fr (N : FS) (L : List (Nat × Value)) (a : Act) : Prop where
  size : a.tmps.size = N.n
  defers : a.defers = N.d
  at_ : ∀ d v, lk L d = some v → a.tmps[d]? = some v
/-- What an operand comes to. -/
def ev (L : List (Nat × Value)) : Operand → Option Value
  | .tmp t => lk L t
  | .const v => some v
  | .global g => some (.pointer (some ⟨g, 0, none⟩))
  | .func f => some (.func (.func f) #[] #[])
def evs (L : List (Nat × Value)) : List Operand → Option (List Value)
  | [] => some []
  | x :: xs => match ev L x, evs L xs with
    | some v, some vs => some (v :: vs)
    | _, _ => none

section
variable {N : FS} {L : List (Nat × Value)} {a : Act}
theorem Fr.eval (h : Fr N L a) {x : Operand} {v : Value} (hx : ev L x = some v) : a.eval x = v := by
  cases x with
  | tmp t => simp only [ev] at hx; simp [Act.eval, h.at_ t v hx]
  | const u => simp only [ev, Option.some.injEq] at hx; exact hx
  | global g => simp only [ev, Option.some.injEq] at hx; exact hx
  | func f => simp only [ev, Option.some.injEq] at hx; exact hx
theorem Fr.put (h : Fr N L a) {d : Nat} (hd : Nat.ble (d + 1) N.n = true) (v : Value) : Fr N ((d, v) :: L) (a.put (some d) v) := by
  have hd' : d < N.n := Nat.le_of_ble_eq_true hd
  refine ⟨by simp [Act.put, h.size], h.defers, fun e u hu => ?_⟩
  simp only [lk] at hu
  by_cases hde : d = e
  · subst hde
    simp only [Nat.beq_refl, cond_true, Option.some.injEq] at hu
    subst hu
    have : d < a.tmps.size := by rw [h.size]; exact hd'
    simp [Act.put, this]
  · have : Nat.beq d e = false := by
      cases hb : Nat.beq d e with
      | false => rfl
      | true => exact (hde (Nat.eq_of_beq_eq_true hb)).elim
    rw [this] at hu
    simp only [cond_false] at hu
    simp [Act.put, Array.getElem?_setIfInBounds_ne hde, h.at_ e u hu]
theorem Fr.none (h : Fr N L a) (v : Value) : Fr N L (a.put Option.none v) := h
/-- Does a list of slots say no more than another one? -/
def Sub (L' L : List (Nat × Value)) : Prop := ∀ p ∈ L', lk L p.1 = some p.2
theorem Sub.nil : Sub [] L := fun _ h => by cases h
theorem Sub.cons {L' : List (Nat × Value)} {k : Nat} {v : Value} (h : lk L k = some v) (hs : Sub L' L) : Sub ((k, v) :: L') L := fun p hp => by
  rcases List.mem_cons.1 hp with rfl | hp
  · exact h
  · exact hs p hp
theorem lk_mem {L : List (Nat × Value)} {k : Nat} {v : Value} (h : lk L k = some v) : (k, v) ∈ L := by
  induction L with
  | nil => cases h
  | cons p L ih =>
    obtain ⟨k', v'⟩ := p
    simp only [lk] at h
    cases hb : Nat.beq k' k with
    | true =>
      rw [hb] at h
      simp only [cond_true, Option.some.injEq] at h
      subst h
      rw [Nat.eq_of_beq_eq_true hb]
      simp
    | false => rw [hb] at h; exact List.mem_cons_of_mem _ (ih h)
theorem Fr.sub {L' : List (Nat × Value)} (h : Fr N L a) (hs : Sub L' L) : Fr N L' a := ⟨h.size, h.defers, fun d v hd => h.at_ d v (hs _ (lk_mem hd))⟩
end

/-- What agrees with the slots. -/
def Agr (L : List (Nat × Value)) (ρ : Operand → Value) : Prop := ∀ x u, ev L x = some u → ρ x = u
theorem Fr.agr {N : FS} {L : List (Nat × Value)} {a : Act} (h : Fr N L a) : Agr L a.eval := fun _ _ hx => h.eval hx
theorem Agr.map {L : List (Nat × Value)} {ρ : Operand → Value} (h : Agr L ρ) : ∀ {xs : List Operand} {vs : List Value}, evs L xs = some vs → xs.map ρ = vs
  | [], vs, hx => by simp only [evs, Option.some.injEq] at hx; subst hx; rfl
  | x :: xs, vs, hx => by
    simp only [evs] at hx
    cases h1 : ev L x with
    | none => simp [h1] at hx
    | some v =>
      cases h2 : evs L xs with
      | none => simp [h1, h2] at hx
      | some us =>
        simp only [h1, h2, Option.some.injEq] at hx
        subst hx
        rw [List.map_cons, h x v h1, h.map h2]

/-- The worlds in which what only reads is to yield the same: blocks with S stay. -/
structure RW (R : World → Prop) (S : Nat → Prop) (w : World) : Prop where
  keep : ∀ w1, R w1 → KeepB S w w1
theorem RW.here (w : World) : RW (fun w1 => w1 = w) (fun _ => True) w := ⟨fun w1 h => by subst h; exact KeepB.refl _ _⟩
theorem RW.below (w : World) : RW (fun w1 => Below w.heap.size w w1) (fun _ => True) w := ⟨fun _ h => KeepB.of_below h (fun _ hk _ => hk)⟩
theorem RW.keepB (S : Nat → Prop) (w : World) : RW (fun w1 => KeepB S w w1) S w := ⟨fun _ h => h⟩

/-- An operation yields this, whatever world of R it is. -/
structure Yv (P : Program) (L : List (Nat × Value)) (R : World → Prop) (o : Oper) (v : Value) : Prop where
  run : ∀ w, R w → ∀ ρ : Operand → Value, Agr L ρ → (execOp ρ o).run P w = .ok (.value v) w

/-- Facts of a program's types, as closed tests. -/
def fieldOff (P : Program) (s : TypeId) (f : Nat) : Option Nat :=
  match P.underlying s with
  | some (.struct fs) => match fs[f]? with
    | some fd => match P.info? fd.type with
      | some i => if i.size = 0 then none else some fd.offset
      | none => none
    | none => none
  | _ => none
/-- Types whose variable is one cell. -/
def scalarB (P : Program) (t : TypeId) : Bool :=
  match P.underlying t with
  | some (.struct _) | some (.array _ _) | none => false
  | some _ => (P.info? t).map (·.size) == some 1
/-- Types whose variable is a row of cells: how many. -/
def aggN (P : Program) (t : TypeId) : Option Nat :=
  match P.underlying t with
  | some (.struct _) | some (.array _ _) => (P.info? t).map (·.size)
  | _ => none
def elemOfSlice (P : Program) (t : TypeId) : Option (TypeId × Nat) :=
  match P.underlying t with
  | some (.slice e) => match P.info? e with
    | some i => some (e, i.size)
    | none => none
  | _ => none
def zeroCells (P : Program) (t : TypeId) : Option (List Value) := (P.info? t).bind fun i => i.zero.map fun v => v.cells.toList

/-- The same, kept shut. -/
structure FoC (P : Program) (s f k : Nat) : Prop where
  h : fieldOff P s f = some k
structure ScC (P : Program) (t : Nat) : Prop where
  h : scalarB P t = true
structure AgC (P : Program) (t n : Nat) : Prop where
  h : aggN P t = some n
structure ElC (P : Program) (t e k : Nat) : Prop where
  h : elemOfSlice P t = some (e, k)
structure ZcC (P : Program) (t : Nat) (zs : List Value) : Prop where
  h : zeroCells P t = some zs

section
variable {P : Program} {L : List (Nat × Value)} {R : World → Prop} {d : Option Nat} {ty : TypeId} {pos : String} {af : Array Edge} {g : Option (Nat × Bool)} {w : World}

theorem yv_move {x : Operand} {v : Value} (h : ev L x = some v) : Yv P L R ⟨d, .move x, ty, pos, af, g⟩ v := Yv.mk fun w1 _ ρ hρ => by
  simp only [execOp, hρ x v h]; rfl
theorem yv_assign {x : Operand} {v : Value} (h : ev L x = some v) : Yv P L R ⟨d, .assign x, ty, pos, af, g⟩ v := Yv.mk fun w1 _ ρ hρ => by
  simp only [execOp, hρ x v h]; rfl
theorem yv_pick_t {c x y : Operand} {b : Bool} {v : Value} (hc : ev L c = some (.bool b)) (hb : b = true) (h : ev L x = some v) : Yv P L R ⟨d, .pick c x y, ty, pos, af, g⟩ v := Yv.mk fun w1 _ ρ hρ => by
  subst hb
  simp [execOp, hρ c _ hc, hρ x v h, asBool]
theorem yv_pick_f {c x y : Operand} {b : Bool} {v : Value} (hc : ev L c = some (.bool b)) (hb : b = false) (h : ev L y = some v) : Yv P L R ⟨d, .pick c x y, ty, pos, af, g⟩ v := Yv.mk fun w1 _ ρ hρ => by
  subst hb
  simp [execOp, hρ c _ hc, hρ y v h, asBool]
theorem yv_fieldAddr {x : Operand} {s f k b o : Nat} (hk0 : FoC P s f k) (hx : ev L x = some (.pointer (some ⟨b, o, none⟩))) : Yv P L R ⟨d, .fieldAddr s x f, ty, pos, af, g⟩ (.pointer (some ⟨b, o + k, none⟩)) := Yv.mk fun w1 _ ρ hρ => by
  have hk := hk0.h
  unfold fieldOff at hk
  have hA : (⟨b, o, none⟩ : Addr).add k = ⟨b, o + k, none⟩ := Addr.add_mid b o k
  split at hk
  · rename_i fs hu
    split at hk
    · rename_i fd hf
      split at hk
      · rename_i i hi
        split at hk
        · cases hk
        · rename_i hz
          simp only [Option.some.injEq] at hk
          subst hk
          simp [execOp, hρ x _ hx, Instr.fieldAt, run_underlying hu, hf, Instr.sureAddr, fieldPlace, sizeOf, typeInfo, hi, hz, hA]
      · cases hk
    · cases hk
  · cases hk
/-- A variable of one cell. -/
theorem yv_load {x : Operand} {t : TypeId} {b o : Nat} {v : Value} (hs0 : ScC P t) (hx : ev L x = some (.pointer (some ⟨b, o, none⟩))) {S : Nat → Prop} (hR : RW R S w) (hs' : S b) (hc : w.cell? ⟨b, o, none⟩ = some v) : Yv P L R ⟨d, .load t x, ty, pos, af, g⟩ v := Yv.mk fun w1 hw ρ hρ => by
  have hs := hs0.h
  have hc1 : w1.cell? ⟨b, o, none⟩ = some v := (hR.keep w1 hw).cell (p := ⟨b, o, none⟩) hs' hc
  unfold scalarB at hs
  split at hs
  · cases hs
  · cases hs
  · cases hs
  · rename_i dsc n1 n2 n3 hu
    simp only [execOp, hρ x _ hx, Instr.loadAt, Instr.sureAddr, loadVar, isAgg, load, Sem.run_bind, Sem.run_pure, Result.andThen_ok, run_underlying hu]
    cases dsc <;> simp_all [Sem.run]
/-- A row of cells by value. -/
theorem yv_loadA {x : Operand} {t : TypeId} {b o n : Nat} {vs : List Value} (hn0 : AgC P t n) (hx : ev L x = some (.pointer (some ⟨b, o, none⟩))) {S : Nat → Prop} (hR : RW R S w) (hs' : S b) (hc : w.rangeAt b o vs) (hl : vs.length = n) : Yv P L R ⟨d, .load t x, ty, pos, af, g⟩ (.agg vs.toArray) := Yv.mk fun w1 hw ρ hρ => by
  have hn := hn0.h
  have hc1 : w1.rangeAt b o vs := fun j v hj => (hR.keep w1 hw).cell (p := ⟨b, o + j, none⟩) hs' (hc j v hj)
  subst hl
  unfold aggN at hn
  simp only [execOp, hρ x _ hx]
  split at hn
  · rename_i fs hu
    have := run_loadAt_mid (P := P) w1 b o t vs (.struct fs) hc1 hu rfl hn
    simp [this]
  · rename_i e n hu
    have := run_loadAt_mid (P := P) w1 b o t vs (.array e n) hc1 hu rfl hn
    simp [this]
  · cases hn

theorem i64_in' {n : Int} (h : -9223372036854775808 ≤ n ∧ n ≤ 9223372036854775807) : IntKind.i64.wrap n = n := IntWalk.i64_in n h
theorem yv_add {x y : Operand} {t t' : TypeId} {m n : Int} (hx : ev L x = some (.int .i64 m)) (hy : ev L y = some (.int .i64 n)) (h : -9223372036854775808 ≤ m + n ∧ m + n ≤ 9223372036854775807) : Yv P L R ⟨d, .binOp .add t x y t', ty, pos, af, g⟩ (.int .i64 (m + n)) := Yv.mk fun w1 _ ρ hρ => by
  simp only [execOp, hρ x _ hx, hρ y _ hy, eqGuard]
  simp [binOp, Op.intArith, i64_in' h]
theorem yv_sub {x y : Operand} {t t' : TypeId} {m n : Int} (hx : ev L x = some (.int .i64 m)) (hy : ev L y = some (.int .i64 n)) (h : -9223372036854775808 ≤ m - n ∧ m - n ≤ 9223372036854775807) : Yv P L R ⟨d, .binOp .sub t x y t', ty, pos, af, g⟩ (.int .i64 (m - n)) := Yv.mk fun w1 _ ρ hρ => by
  simp only [execOp, hρ x _ hx, hρ y _ hy, eqGuard]
  simp [binOp, Op.intArith, i64_in' h]
theorem yv_mul {x y : Operand} {t t' : TypeId} {m n : Int} (hx : ev L x = some (.int .i64 m)) (hy : ev L y = some (.int .i64 n)) (h : -9223372036854775808 ≤ m * n ∧ m * n ≤ 9223372036854775807) : Yv P L R ⟨d, .binOp .mul t x y t', ty, pos, af, g⟩ (.int .i64 (m * n)) := Yv.mk fun w1 _ ρ hρ => by
  simp only [execOp, hρ x _ hx, hρ y _ hy, eqGuard]
  simp [binOp, Op.intArith, i64_in' h]
theorem yv_lss {x y : Operand} {t t' : TypeId} {k : IntKind} {m n : Int} (hx : ev L x = some (.int k m)) (hy : ev L y = some (.int k n)) : Yv P L R ⟨d, .binOp .lss t x y t', ty, pos, af, g⟩ (.bool (decide (m < n))) := Yv.mk fun w1 _ ρ hρ => by
  simp only [execOp, hρ x _ hx, hρ y _ hy, eqGuard]
  simp [binOp, Op.intCmp]
theorem yv_lss_t {x y : Operand} {t t' : TypeId} {k : IntKind} {m n : Int} (hx : ev L x = some (.int k m)) (hy : ev L y = some (.int k n)) (h : m < n) : Yv P L R ⟨d, .binOp .lss t x y t', ty, pos, af, g⟩ (.bool true) := by have := yv_lss (P := P) (R := R) (t := t) (t' := t') (ty := ty) (pos := pos) (af := af) (g := g) (d := d) hx hy; rwa [decide_eq_true h] at this
theorem yv_lss_f {x y : Operand} {t t' : TypeId} {k : IntKind} {m n : Int} (hx : ev L x = some (.int k m)) (hy : ev L y = some (.int k n)) (h : n ≤ m) : Yv P L R ⟨d, .binOp .lss t x y t', ty, pos, af, g⟩ (.bool false) := by have := yv_lss (P := P) (R := R) (t := t) (t' := t') (ty := ty) (pos := pos) (af := af) (g := g) (d := d) hx hy; rwa [decide_eq_false (by omega)] at this
theorem yv_leq {x y : Operand} {t t' : TypeId} {k : IntKind} {m n : Int} (hx : ev L x = some (.int k m)) (hy : ev L y = some (.int k n)) : Yv P L R ⟨d, .binOp .leq t x y t', ty, pos, af, g⟩ (.bool (decide (m ≤ n))) := Yv.mk fun w1 _ ρ hρ => by
  simp only [execOp, hρ x _ hx, hρ y _ hy, eqGuard]
  simp [binOp, Op.intCmp]
theorem yv_leq_t {x y : Operand} {t t' : TypeId} {k : IntKind} {m n : Int} (hx : ev L x = some (.int k m)) (hy : ev L y = some (.int k n)) (h : m ≤ n) : Yv P L R ⟨d, .binOp .leq t x y t', ty, pos, af, g⟩ (.bool true) := by have := yv_leq (P := P) (R := R) (t := t) (t' := t') (ty := ty) (pos := pos) (af := af) (g := g) (d := d) hx hy; rwa [decide_eq_true h] at this
theorem yv_leq_f {x y : Operand} {t t' : TypeId} {k : IntKind} {m n : Int} (hx : ev L x = some (.int k m)) (hy : ev L y = some (.int k n)) (h : n < m) : Yv P L R ⟨d, .binOp .leq t x y t', ty, pos, af, g⟩ (.bool false) := by have := yv_leq (P := P) (R := R) (t := t) (t' := t') (ty := ty) (pos := pos) (af := af) (g := g) (d := d) hx hy; rwa [decide_eq_false (by omega)] at this
theorem yv_gtr {x y : Operand} {t t' : TypeId} {k : IntKind} {m n : Int} (hx : ev L x = some (.int k m)) (hy : ev L y = some (.int k n)) : Yv P L R ⟨d, .binOp .gtr t x y t', ty, pos, af, g⟩ (.bool (decide (n < m))) := Yv.mk fun w1 _ ρ hρ => by
  simp only [execOp, hρ x _ hx, hρ y _ hy, eqGuard]
  simp [binOp, Op.intCmp]
theorem yv_gtr_t {x y : Operand} {t t' : TypeId} {k : IntKind} {m n : Int} (hx : ev L x = some (.int k m)) (hy : ev L y = some (.int k n)) (h : n < m) : Yv P L R ⟨d, .binOp .gtr t x y t', ty, pos, af, g⟩ (.bool true) := by have := yv_gtr (P := P) (R := R) (t := t) (t' := t') (ty := ty) (pos := pos) (af := af) (g := g) (d := d) hx hy; rwa [decide_eq_true h] at this
theorem yv_gtr_f {x y : Operand} {t t' : TypeId} {k : IntKind} {m n : Int} (hx : ev L x = some (.int k m)) (hy : ev L y = some (.int k n)) (h : m ≤ n) : Yv P L R ⟨d, .binOp .gtr t x y t', ty, pos, af, g⟩ (.bool false) := by have := yv_gtr (P := P) (R := R) (t := t) (t' := t') (ty := ty) (pos := pos) (af := af) (g := g) (d := d) hx hy; rwa [decide_eq_false (by omega)] at this
theorem yv_geq {x y : Operand} {t t' : TypeId} {k : IntKind} {m n : Int} (hx : ev L x = some (.int k m)) (hy : ev L y = some (.int k n)) : Yv P L R ⟨d, .binOp .geq t x y t', ty, pos, af, g⟩ (.bool (decide (n ≤ m))) := Yv.mk fun w1 _ ρ hρ => by
  simp only [execOp, hρ x _ hx, hρ y _ hy, eqGuard]
  simp [binOp, Op.intCmp]
theorem yv_geq_t {x y : Operand} {t t' : TypeId} {k : IntKind} {m n : Int} (hx : ev L x = some (.int k m)) (hy : ev L y = some (.int k n)) (h : n ≤ m) : Yv P L R ⟨d, .binOp .geq t x y t', ty, pos, af, g⟩ (.bool true) := by have := yv_geq (P := P) (R := R) (t := t) (t' := t') (ty := ty) (pos := pos) (af := af) (g := g) (d := d) hx hy; rwa [decide_eq_true h] at this
theorem yv_geq_f {x y : Operand} {t t' : TypeId} {k : IntKind} {m n : Int} (hx : ev L x = some (.int k m)) (hy : ev L y = some (.int k n)) (h : m < n) : Yv P L R ⟨d, .binOp .geq t x y t', ty, pos, af, g⟩ (.bool false) := by have := yv_geq (P := P) (R := R) (t := t) (t' := t') (ty := ty) (pos := pos) (af := af) (g := g) (d := d) hx hy; rwa [decide_eq_false (by omega)] at this
theorem yv_eql {x y : Operand} {t t' : TypeId} {k : IntKind} {m n : Int} (hx : ev L x = some (.int k m)) (hy : ev L y = some (.int k n)) : Yv P L R ⟨d, .binOp .eql t x y t', ty, pos, af, g⟩ (.bool (decide (m = n))) := Yv.mk fun w1 _ ρ hρ => by
  simp only [execOp, hρ x _ hx, hρ y _ hy, eqGuard]
  have e : (m == n) = decide (m = n) := by by_cases h : m = n <;> simp [h]
  simp [binOp, Op.intCmp, e]
theorem yv_eql_t {x y : Operand} {t t' : TypeId} {k : IntKind} {m n : Int} (hx : ev L x = some (.int k m)) (hy : ev L y = some (.int k n)) (h : m = n) : Yv P L R ⟨d, .binOp .eql t x y t', ty, pos, af, g⟩ (.bool true) := by have := yv_eql (P := P) (R := R) (t := t) (t' := t') (ty := ty) (pos := pos) (af := af) (g := g) (d := d) hx hy; rwa [decide_eq_true h] at this
theorem yv_eql_f {x y : Operand} {t t' : TypeId} {k : IntKind} {m n : Int} (hx : ev L x = some (.int k m)) (hy : ev L y = some (.int k n)) (h : m ≠ n) : Yv P L R ⟨d, .binOp .eql t x y t', ty, pos, af, g⟩ (.bool false) := by have := yv_eql (P := P) (R := R) (t := t) (t' := t') (ty := ty) (pos := pos) (af := af) (g := g) (d := d) hx hy; rwa [decide_eq_false (by omega)] at this
theorem yv_neq {x y : Operand} {t t' : TypeId} {k : IntKind} {m n : Int} (hx : ev L x = some (.int k m)) (hy : ev L y = some (.int k n)) : Yv P L R ⟨d, .binOp .neq t x y t', ty, pos, af, g⟩ (.bool (decide (m ≠ n))) := Yv.mk fun w1 _ ρ hρ => by
  simp only [execOp, hρ x _ hx, hρ y _ hy, eqGuard]
  have e : (m != n) = decide (m ≠ n) := by by_cases h : m = n <;> simp [h]
  simp [binOp, Op.intCmp, e]
theorem yv_neq_t {x y : Operand} {t t' : TypeId} {k : IntKind} {m n : Int} (hx : ev L x = some (.int k m)) (hy : ev L y = some (.int k n)) (h : m ≠ n) : Yv P L R ⟨d, .binOp .neq t x y t', ty, pos, af, g⟩ (.bool true) := by have := yv_neq (P := P) (R := R) (t := t) (t' := t') (ty := ty) (pos := pos) (af := af) (g := g) (d := d) hx hy; rwa [decide_eq_true h] at this
theorem yv_neq_f {x y : Operand} {t t' : TypeId} {k : IntKind} {m n : Int} (hx : ev L x = some (.int k m)) (hy : ev L y = some (.int k n)) (h : m = n) : Yv P L R ⟨d, .binOp .neq t x y t', ty, pos, af, g⟩ (.bool false) := by have := yv_neq (P := P) (R := R) (t := t) (t' := t') (ty := ty) (pos := pos) (af := af) (g := g) (d := d) hx hy; rwa [decide_eq_false (by omega)] at this
theorem yv_not {x : Operand} {t : TypeId} {b : Bool} (hx : ev L x = some (.bool b)) : Yv P L R ⟨d, .unOp .not t x, ty, pos, af, g⟩ (.bool (!b)) := Yv.mk fun w1 _ ρ hρ => by
  simp only [execOp, hρ x _ hx]
  simp [Op.unary]

theorem yv_eqlB {x y : Operand} {t t' : TypeId} {m n : Bool} (ht : P.underlying t = some .bool) (hx : ev L x = some (.bool m)) (hy : ev L y = some (.bool n)) : Yv P L R ⟨d, .binOp .eql t x y t', ty, pos, af, g⟩ (.bool (decide (m = n))) := Yv.mk fun w1 _ ρ hρ => by
  simp only [execOp, hρ x _ hx, hρ y _ hy, eqGuard]
  have e : (m == n) = decide (m = n) := by cases m <;> cases n <;> rfl
  simp [binOp, run_equal_bool w1 t m n ht, e]
theorem yv_neqB {x y : Operand} {t t' : TypeId} {m n : Bool} (ht : P.underlying t = some .bool) (hx : ev L x = some (.bool m)) (hy : ev L y = some (.bool n)) : Yv P L R ⟨d, .binOp .neq t x y t', ty, pos, af, g⟩ (.bool (decide (m ≠ n))) := Yv.mk fun w1 _ ρ hρ => by
  simp only [execOp, hρ x _ hx, hρ y _ hy, eqGuard]
  have e : (!(m == n)) = decide (m ≠ n) := by cases m <;> cases n <;> rfl
  simp [binOp, run_equal_bool w1 t m n ht, e]
theorem yv_len {x : Operand} {t e n c k : Nat} {A : Option Addr} (ht0 : ElC P t e k) (hx : ev L x = some (.slice A n c)) : Yv P L R ⟨d, .call { callee := .builtin .len, args := #[x], argTypes := #[t] }, ty, pos, af, g⟩ (.int .i64 n) := Yv.mk fun w1 _ ρ hρ => by
  have ht := ht0.h
  unfold elemOfSlice at ht
  split at ht
  · rename_i e' hu
    simp [execOp, resolve, invoke, builtin, hρ x _ hx, Builtin.len_, run_underlying hu, goInt]
  · cases ht
theorem yv_extract {x : Operand} {vs : Array Value} {i : Nat} {v : Value} (hx : ev L x = some (.tuple vs)) (hv : vs[i]? = some v) : Yv P L R ⟨d, .extract x i, ty, pos, af, g⟩ v := Yv.mk fun w1 _ ρ hρ => by
  simp [execOp, hρ x _ hx, Instr.extract, hv]
theorem yv_nilCheck {x : Operand} {a : Addr} (hx : ev L x = some (.pointer (some a))) : Yv P L R ⟨d, .nilCheck x, ty, pos, af, g⟩ (.pointer (some a)) := Yv.mk fun w1 _ ρ hρ => by
  simp [execOp, hρ x _ hx]
theorem yv_makeFunc {fn : Fn} {xs ys : List Operand} {us vs : List Value} (hx : evs L xs = some us) (hy : evs L ys = some vs) : Yv P L R ⟨d, .makeFunc fn xs.toArray ys.toArray, ty, pos, af, g⟩ (.func fn us.toArray vs.toArray) := Yv.mk fun w1 _ ρ hρ => by
  simp [execOp, Instr.makeFunc, hρ.map hx, hρ.map hy]
theorem yv_indexAddr {x y : Operand} {t e n c k b o j : Nat} {q : IntKind} {i : Int} (ht0 : ElC P t e k) (hx : ev L x = some (.slice (some ⟨b, o, none⟩) n c)) (hy : ev L y = some (.int q i)) (hi : i = (j : Int)) (hj : j < n) : Yv P L R ⟨d, .indexAddr t x y, ty, pos, af, g⟩ (.pointer (some ⟨b, o + j * k, none⟩)) := Yv.mk fun w1 _ ρ hρ => by
  have ht := ht0.h
  subst hi
  unfold elemOfSlice at ht
  split at ht
  · rename_i e' hu
    split at ht
    · rename_i i hi
      simp only [Option.some.injEq, Prod.mk.injEq] at ht
      obtain ⟨rfl, rfl⟩ := ht
      have h2 : (j : Int) < n := by omega
      simp [execOp, hρ x _ hx, hρ y _ hy, Instr.indexAt, asIntOf, run_underlying hu, h2, hj, sizeOf, typeInfo, hi, Addr.add_mid]
    · cases ht
  · cases ht
theorem sliced_eq (A : Option Addr) (l h m s : Nat) : sliced A l h m s = .slice (if m = l then A else A.map (·.add (l * s))) (h - l) (m - l) := rfl
theorem elem_slice {P : Program} {t e k : Nat} (ht0 : ElC P t e k) : P.underlying t = some (.slice (P.elem t)) ∧ ∀ w, (sizeOf (P.elem t)).run P w = .ok k w := by
  have ht := ht0.h
  unfold elemOfSlice at ht
  split at ht
  · rename_i e' hu
    split at ht
    · rename_i i hi
      simp only [Option.some.injEq, Prod.mk.injEq] at ht
      obtain ⟨rfl, rfl⟩ := ht
      have he : P.elem t = e' := by unfold Program.elem; rw [hu]
      refine ⟨by rw [he]; exact hu, fun w => by rw [he]; simp [sizeOf, typeInfo, hi]⟩
    · cases ht
  · cases ht
/-- s[:h] -/
theorem yv_slice_h {x y : Operand} {t e n c k h : Nat} {q : IntKind} {i : Int} {A : Option Addr} (ht0 : ElC P t e k) (hx : ev L x = some (.slice A n c)) (hy : ev L y = some (.int q i)) (hi : i = (h : Int)) (hh : h ≤ c) : Yv P L R ⟨d, .slice t x none (some y) none, ty, pos, af, g⟩ (.slice A h c) := Yv.mk fun w1 _ ρ hρ => by
  have ht := ht0.h
  subst hi
  obtain ⟨hu, hs⟩ := elem_slice ht0
  have := run_slice_h (P := P) w1 t A n c hu q (h : Int) (by omega) (by omega)
  simp only [execOp, hρ x _ hx, Option.map_some, Option.map_none, hρ y _ hy, run_sliceAt_slice w1 t _ _ _ _ hu, Sem.run_bind, this, hs, Result.andThen_ok, Sem.run_pure]
  have e : sliced A 0 (h : Int).toNat c k = .slice A h c := by
    rw [sliced_eq]
    simp
    intro _
    cases A with
    | none => rfl
    | some a => obtain ⟨b, o, sp⟩ := a; simp [Addr.add]
  rw [e]
/-- s[l:] -/
theorem yv_slice_l {x y : Operand} {t e n c k l : Nat} {q : IntKind} {i : Int} {A : Option Addr} (ht0 : ElC P t e k) (hx : ev L x = some (.slice A n c)) (hy : ev L y = some (.int q i)) (hi : i = (l : Int)) (hl : l ≤ n) : Yv P L R ⟨d, .slice t x (some y) none none, ty, pos, af, g⟩ (.slice (if c = l then A else A.map (·.add (l * k))) (n - l) (c - l)) := Yv.mk fun w1 _ ρ hρ => by
  have ht := ht0.h
  subst hi
  obtain ⟨hu, hs⟩ := elem_slice ht0
  have := run_slice_l (P := P) w1 t A n c hu q (l : Int) (by omega) (by omega)
  simp only [execOp, hρ x _ hx, Option.map_some, Option.map_none, hρ y _ hy, run_sliceAt_slice w1 t _ _ _ _ hu, Sem.run_bind, this, hs, Result.andThen_ok, Sem.run_pure]
  have e : sliced A (l : Int).toNat n c k = .slice (if c = l then A else A.map (·.add (l * k))) (n - l) (c - l) := by rw [sliced_eq]; simp
  rw [e]
/-- s[l:h] -/
theorem yv_slice_lh {x y z : Operand} {t e n c k l h : Nat} {q r : IntKind} {i m : Int} {A : Option Addr} (ht0 : ElC P t e k) (hx : ev L x = some (.slice A n c)) (hy : ev L y = some (.int q i)) (hz : ev L z = some (.int r m)) (hi : i = (l : Int)) (hm : m = (h : Int)) (hl : l ≤ h) (hh : h ≤ c) : Yv P L R ⟨d, .slice t x (some y) (some z) none, ty, pos, af, g⟩ (.slice (if c = l then A else A.map (·.add (l * k))) (h - l) (c - l)) := Yv.mk fun w1 _ ρ hρ => by
  have ht := ht0.h
  subst hi
  subst hm
  obtain ⟨hu, hs⟩ := elem_slice ht0
  have := run_slice_lh (P := P) w1 t A n c hu q r (l : Int) (h : Int) (by omega) (by omega) (by omega)
  simp only [execOp, hρ x _ hx, Option.map_some, Option.map_none, hρ y _ hy, hρ z _ hz, run_sliceAt_slice w1 t _ _ _ _ hu, Sem.run_bind, this, hs, Result.andThen_ok, Sem.run_pure]
  have e : sliced A (l : Int).toNat (h : Int).toNat c k = .slice (if c = l then A else A.map (·.add (l * k))) (h - l) (c - l) := by rw [sliced_eq]; simp
  rw [e]
theorem yv_min {x y : Operand} {ts : Array TypeId} {k : IntKind} {m n : Int} (hx : ev L x = some (.int k m)) (hy : ev L y = some (.int k n)) : Yv P L R ⟨d, .call { callee := .builtin .min, args := #[x, y], argTypes := ts }, ty, pos, af, g⟩ (.int k (min m n)) := Yv.mk fun w1 _ ρ hρ => by
  simp [execOp, resolve, invoke, builtin, hρ x _ hx, hρ y _ hy, Builtin.min_, Builtin.min2]
  omega
theorem yv_max {x y : Operand} {ts : Array TypeId} {k : IntKind} {m n : Int} (hx : ev L x = some (.int k m)) (hy : ev L y = some (.int k n)) : Yv P L R ⟨d, .call { callee := .builtin .max, args := #[x, y], argTypes := ts }, ty, pos, af, g⟩ (.int k (max m n)) := Yv.mk fun w1 _ ρ hρ => by
  simp [execOp, resolve, invoke, builtin, hρ x _ hx, hρ y _ hy, Builtin.max_, Builtin.max2]
  omega
theorem yv_rem {x y : Operand} {t t' : TypeId} {m n : Int} (hx : ev L x = some (.int .i64 m)) (hy : ev L y = some (.int .i64 n)) (h : n ≠ 0) : Yv P L R ⟨d, .binOp .rem t x y t', ty, pos, af, g⟩ (.int .i64 (m.tmod n)) := Yv.mk fun w1 _ ρ hρ => by
  simp only [execOp, hρ x _ hx, hρ y _ hy, eqGuard]
  simp [binOp, Op.intDiv, h]
theorem yv_neg {x : Operand} {t : TypeId} {n : Int} (hx : ev L x = some (.int .i64 n)) (h : -9223372036854775808 ≤ 0 - n ∧ 0 - n ≤ 9223372036854775807) : Yv P L R ⟨d, .unOp .neg t x, ty, pos, af, g⟩ (.int .i64 (0 - n)) := Yv.mk fun w1 _ ρ hρ => by
  simp only [execOp, hρ x _ hx]
  simp only [Op.unary, Op.intArith, i64_in' h, Sem.run_bind, Sem.run_pure, Result.andThen_ok]
/-- A part of a struct by value. -/
theorem yv_field {x : Operand} {s f k : Nat} {vs : List Value} {v : Value} (hk0 : FoC P s f k) (hs : (match P.underlying s with | some (.struct fs) => (match fs[f]? with | some fd => scalarB P fd.type | none => false) | _ => false) = true) (hx : ev L x = some (.agg vs.toArray)) (hv : vs[k]? = some v) : Yv P L R ⟨d, .field s x f, ty, pos, af, g⟩ v := Yv.mk fun w1 _ ρ hρ => by
  have hk := hk0.h
  unfold fieldOff at hk
  split at hk
  · rename_i fs hu
    simp only [hu] at hs
    split at hk
    · rename_i fd hf
      simp only [hf] at hs
      split at hk
      · rename_i i hi
        split at hk
        · cases hk
        · simp only [Option.some.injEq] at hk
          subst hk
          unfold scalarB at hs
          split at hs
          · cases hs
          · cases hs
          · cases hs
          · rename_i dsc n1 n2 n3 hu2
            simp only [execOp, hρ x _ hx, Instr.field, Sem.run_bind, run_underlying hu, Result.andThen_ok, hf, asAgg, Sem.run_pure, part, isAgg, run_underlying hu2]
            have hv' : vs.toArray[fd.offset]? = some v := by simpa using hv
            cases dsc <;> simp_all
      · cases hk
    · cases hk
  · cases hk
theorem yv_build {t : TypeId} {ps : List (Nat × Operand)} {vs : List Value} {cells : List Value} (hp : evs L (ps.map (·.2)) = some vs) (hb : P.built t ((ps.map (·.1)).zip vs) = some cells.toArray) : Yv P L R ⟨d, .build t ps.toArray, ty, pos, af, g⟩ (.agg cells.toArray) := Yv.mk fun w1 _ ρ hρ => by
  have e : ∀ (ps : List (Nat × Operand)) (vs : List Value), evs L (ps.map (·.2)) = some vs → ps.map (fun (i, x) => (i, ρ x)) = (ps.map (·.1)).zip vs := by
    intro ps
    induction ps with
    | nil => intro vs h; simp
    | cons p ps ih =>
      intro vs h
      obtain ⟨i, x⟩ := p
      simp only [List.map_cons, evs] at h
      cases h1 : ev L x with
      | none => simp [h1] at h
      | some v =>
        cases h2 : evs L (ps.map (·.2)) with
        | none => simp [h1, h2] at h
        | some us =>
          simp only [h1, h2, Option.some.injEq] at h
          subst h
          simp [ih us h2, hρ x v h1]
  have e1 := e ps vs hp
  have hl : (ps.toArray.map fun (i, x) => (i, ρ x)) = ((ps.map (·.1)).zip vs).toArray := by rw [← e1]; simp
  have hr := run_build w1 t ((ps.map (·.1)).zip vs).toArray cells.toArray (by simpa using hb)
  simp only [execOp, hl, Sem.run_bind, hr, Result.andThen_ok, Sem.run_pure]
theorem yv_convert {x : Operand} {s t : TypeId} {k k' : IntKind} {n : Int} (hs : (P.underlying s).isSome = true) (ht : P.underlying t = some (.int k')) (hx : ev L x = some (.int k n)) (hw : k'.wrap n = n) : Yv P L R ⟨d, .convert s t x, ty, pos, af, g⟩ (.int k' n) := Yv.mk fun w1 _ ρ hρ => by
  obtain ⟨ds, hs⟩ := Option.isSome_iff_exists.1 hs
  simp only [execOp, hρ x _ hx, convert, Sem.run_bind, run_underlying hs, run_underlying ht, Result.andThen_ok]
  cases ds <;> simp [Conv.intToInt, hw]
end
end Go.Proofs.Ythngkojbokknfaa
