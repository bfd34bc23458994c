/- Texts of one claim put together: what its walks share. -/
import Derived.WalkKit
import Derived.WalkSpells
import Derived.WalkLawsBesides
import Derived.Deep.QuietTactic
import Derived.BigQuiet
import Derived.Lib.Hide
import Derived.Handy
import Derived.Deep.RegionHeld3
import Derived.Maps.AppendAt
import Derived.Deep.AppendLies
import Derived.Deep.Draws
import Derived.ProofKit
import Derived.OpenShut
import Derived.LaidLaws
import Derived.LaidHandle
import Derived.LaidOnce
import Derived.LaidMore
import Derived.Lib.LaidTab
import Derived.Test.YtofheinbbefbcaaDoorRows
import Derived.RangeFuncNested
import Derived.RangeFuncBound
import Derived.RangeFuncCalls
import Derived.RangeFuncLeaves
import Derived.OwnWalkIn
import Derived.TacticsInMore
import Derived.LoopNIn
import Derived.LoopIn
import Derived.Shelf.Abstract
import Derived.ScopeJumps
import Derived.MapKept
import Derived.OrdersHeld
import Derived.Deep.DeepCutAuto
import Derived.RegionTactic
import Derived.OwnWalk
import Derived.Deep.MidRow
import Derived.IntWalk
import Derived.RangeFuncIn
import Derived.Great.BuildSlice
import Derived.Laws.Cover3
import Derived.Test.YtofheinbbefbcaaDoorProg
import Derived.Laws.OwnMore
import Derived.Recover
import Derived.WalkSmall
import Derived.Laws.Pointers
/- Words of my own for what a slice in memory reads as, and what a call may leave behind it. -/
namespace Go.Proofs.YtofheinbbefbcaaDoor
open Go Go.RowKit
set_option maxRecDepth 100000

/-- A byte as a cell holds it. -/
def bv (c : UInt8) : Value := .int .u8 (c.toNat : Int)
def bvs (l : List UInt8) : List Value := l.map bv
/-- An int as a cell holds it. -/
def iv (n : Int) : Value := .int .i64 n
def ivs (l : List Int) : List Value := l.map iv

theorem bvs_take (l : List UInt8) (k : Nat) : bvs (l.take k) = (bvs l).take k := by simp [bvs, List.map_take]
theorem bvs_drop (l : List UInt8) (k : Nat) : bvs (l.drop k) = (bvs l).drop k := by simp [bvs, List.map_drop]
theorem bvs_length (l : List UInt8) : (bvs l).length = l.length := by simp [bvs]
/-- From A on the cells hold xs. -/
def Rd (w : World) (A : Option Addr) (xs : List Value) : Prop :=
  ∀ j u, xs[j]? = some u → ∃ b o, A = some ⟨b, o, none⟩ ∧ b < w.heap.size ∧ w.cell? ⟨b, o + j, none⟩ = some u

section
variable {w w' w1 : World} {A : Option Addr} {xs : List Value}
theorem Rd.nil (w : World) (A : Option Addr) : Rd w A [] := fun j u h => by simp at h
theorem Rd.keep (h : Rd w A xs) (hs : w.heap.size ≤ w'.heap.size) (hk : ∀ p : Addr, p.block < w.heap.size → w'.cell? p = w.cell? p) : Rd w' A xs := fun j u hj => by
  obtain ⟨b, o, e, hb, hc⟩ := h j u hj
  exact ⟨b, o, e, Nat.lt_of_lt_of_le hb hs, (hk ⟨b, o + j, none⟩ hb).trans hc⟩
theorem Rd.below (h : Rd w A xs) (hb : Below w.heap.size w w') : Rd w' A xs := h.keep hb.size fun _ hp => hb.cell hp
theorem Rd.at_ (h : Rd w A xs) {k : Nat} {u : Value} (hk : xs[k]? = some u) : ∃ b o, A = some ⟨b, o, none⟩ ∧ b < w.heap.size ∧ w.cell? ⟨b, o + k, none⟩ = some u := h k u hk
/-- A cut at the front. -/
theorem Rd.drop (h : Rd w A xs) (k : Nat) : Rd w (A.map (·.add k)) (xs.drop k) := fun j u hj => by
  rw [List.getElem?_drop] at hj
  obtain ⟨b, o, e, hb, hc⟩ := h _ u hj
  subst e
  refine ⟨b, o + k, ?_, hb, by rw [Nat.add_assoc]; exact hc⟩
  simp only [Option.map_some, Addr.add]
  split <;> simp_all
theorem Rd.drewN (h : Rd w A xs) (n : Nat) : Rd (w.drewN n) A xs := h
theorem Rd.drew (h : Rd w A xs) : Rd w.drew A xs := h
/-- A cut at the front, as the model spells it. -/
theorem Rd.cut (h : Rd w A xs) {k c : Nat} (hc : xs.length ≤ c) : Rd w (if c = k then A else A.map (·.add k)) (xs.drop k) := by
  split
  · rw [List.drop_eq_nil_of_le (by omega)]; exact Rd.nil _ _
  · exact h.drop k
theorem Rd.take (h : Rd w A xs) (k : Nat) : Rd w A (xs.take k) := fun j u hj => by
  have : xs[j]? = some u := by
    rw [List.getElem?_take] at hj
    split at hj
    · exact hj
    · cases hj
  exact h j u this
theorem Rd.of_own {base : Nat} {e : TypeId} {n size c : Nat} (h : w.ownsRow base e size (.slice A n c) n xs) : Rd w A xs := fun j u hj => by
  have hl := h.1
  have hj' : j < xs.length := (List.getElem?_eq_some_iff.1 hj).1
  have hn : 0 < n := by
    rcases Nat.eq_zero_or_pos n with h0 | h0
    · subst h0; simp at hl; subst hl; simp at hj'
    · exact h0
  obtain ⟨g, cap, hv, _, hlt⟩ := h.form hn
  have hA : A = some ⟨g, 0, none⟩ := by injection hv
  subst hA
  have := h.cells (g := g) rfl j u hj
  refine ⟨g, 0, rfl, hlt, ?_⟩
  have e0 : (⟨g, 0, none⟩ : Addr).add j = ⟨g, 0 + j, none⟩ := by
    simp only [Addr.add]; split <;> simp_all
  rw [e0] at this
  exact this
end

/-- A new block reads as what was laid in it. -/
theorem Rd.newF (w : World) (cs : List Value) (t : TypeId) (fr : Nat × Nat) : Rd (w.alloc (.cells cs.toArray t fr)) (some ⟨w.heap.size, 0, none⟩) cs := fun j u hj =>
  ⟨w.heap.size, 0, rfl, by simp, by
    have h : (w.alloc (.cells cs.toArray t fr)).heap[w.heap.size]? = some (.cells cs.toArray t fr) := heap_alloc_new w _
    rw [cell_of_row _ _ _ _ t fr h]
    simpa using hj⟩
theorem Rd.new (w : World) (cs : List Value) (t : TypeId) : Rd (w.alloc (.cells cs.toArray t)) (some ⟨w.heap.size, 0, none⟩) cs := Rd.newF w cs t (0, 0)

/-- What is below what was there stays. -/
theorem bStep {B : Nat} {a b c : World} (h : Below B a b) (hB : B ≤ b.heap.size) (k : Below b.heap.size b c) : Below B a c := h.trans (k.mono hB)
theorem bTr {a b c : World} (h : Below a.heap.size a b) (k : Below b.heap.size b c) : Below a.heap.size a c := h.trans (k.mono h.size)
theorem bDrewN {B : Nat} {a w : World} (h : Below B a w) (n : Nat) : Below B a (w.drewN n) := ⟨h.os, h.tape, h.output, h.size, h.block⟩
/-- Bytes as a string. -/
def bstr (l : List UInt8) : ByteArray := ⟨l.toArray⟩
theorem bvs_at {l : List UInt8} {i : Nat} (hi : i < l.length) : (bvs l)[i]? = some (bv l[i]) := by
  unfold bvs
  rw [List.getElem?_map, List.getElem?_eq_getElem hi]
  rfl
theorem run_str {P : Program} {w : World} {A : Option Addr} {l : List UInt8} (hA : Rd w A (bvs l)) (c : Nat) (src e : TypeId) (hs : P.underlying src = some (.slice e)) (he : P.underlying e = some (.int .u8)) :
    ∀ dst, P.underlying dst = some .string → (convert src dst (.slice A l.length c)).run P w = .ok (.string (bstr l)) w := by
  intro dst hd
  rcases Nat.eq_zero_or_pos l.length with h0 | h0
  · obtain rfl : l = [] := List.eq_nil_of_length_eq_zero h0
    rw [run_convert_bytes_string w src dst e _ _ c hs he hd]
    cases A with
    | none => simp [Conv.bytesToString]; rfl
    | some a =>
      exact run_bytesToString (P := P) w a 0 c [] (by simp [loadCells, loadCellsFrom])
  · obtain ⟨b, o, rfl, hb, _⟩ := hA 0 (bv l[0]) (bvs_at h0)
    have hc : ∀ i, i < l.length → w.cell? ⟨b, o + i, none⟩ = some (.int .u8 ((l.map fun c => (c.toNat : Int)).getD i 0)) := fun i hi => by
      obtain ⟨b', o', e, _, hc⟩ := hA i (bv l[i]) (bvs_at hi)
      injection e with e
      injection e with e1 e2
      subst e1; subst e2
      rw [hc]
      simp [bv, hi]
    have := run_convert_bytes_arg (P := P) w src e hs he b o l.length c (l.map fun c => (c.toNat : Int)) (by simp) hc dst hd
    rw [this]
    congr 2
    simp [strOfNums, bstr, Function.comp_def]
theorem bstr_beq (l m : List UInt8) : ((bstr l).toList == (bstr m).toList) = decide (l = m) := by
  rw [ByteArray.toList_eq, ByteArray.toList_eq]
  show (l == m) = _
  by_cases h : l = m <;> simp [h]

theorem Rd.none_nil {w : World} {xs : List Value} (h : Rd w none xs) : xs = [] := by
  cases xs with
  | nil => rfl
  | cons x xs => obtain ⟨b, o, e, _⟩ := h 0 x rfl; cases e
theorem Rd.none_bytes {w : World} {l : List UInt8} (h : Rd w none (bvs l)) : l = [] := by
  have := congrArg List.length h.none_nil
  rw [bvs_length] at this
  exact List.eq_nil_of_length_eq_zero this

/-- A slice of bytes, as a value. -/
def IsB (w : World) (v : Value) (l : List UInt8) : Prop := ∃ A c, v = .slice A l.length c ∧ (l.length ≤ 1099511627776 ∧ l.length ≤ c ∧ c ≤ maxLen) ∧ Rd w A (bvs l)
theorem IsB.below {w w' : World} {v : Value} {l : List UInt8} (h : IsB w v l) (hb : Below w.heap.size w w') : IsB w' v l := by
  obtain ⟨A, c, e, hl, hr⟩ := h
  exact ⟨A, c, e, hl, hr.below hb⟩
theorem IsB.of_own {w : World} {base : Nat} {e : TypeId} {v : Value} {l : List UInt8} (h : w.ownsRow base e 1 v l.length (bvs l)) (hl : l.length ≤ 1099511627776) : IsB w v l := by
  have h2 := h.2
  rcases h2 with ⟨rfl, h0⟩ | ⟨g, cap, cur, rfl, _, _, hnc, hcm, _⟩
  · obtain rfl : l = [] := List.eq_nil_of_length_eq_zero h0
    exact ⟨none, 0, rfl, by simp, Rd.nil _ _⟩
  · exact ⟨_, cap, rfl, ⟨hl, hnc, hcm⟩, Rd.of_own h⟩
/-- Rows of bytes. -/
def IsRows (w : World) (A : Option Addr) (ls : List (List UInt8)) : Prop :=
  ∃ vs : List Value, vs.length = ls.length ∧ Rd w A vs ∧ ∀ (i : Nat) (v : Value) (l : List UInt8), vs[i]? = some v → ls[i]? = some l → IsB w v l
theorem IsRows.below {w w' : World} {A : Option Addr} {ls : List (List UInt8)} (h : IsRows w A ls) (hb : Below w.heap.size w w') : IsRows w' A ls := by
  obtain ⟨vs, hl, hr, hi⟩ := h
  exact ⟨vs, hl, hr.below hb, fun i v l h1 h2 => (hi i v l h1 h2).below hb⟩
theorem IsRows.at_ {w : World} {A : Option Addr} {ls : List (List UInt8)} (h : IsRows w A ls) {k : Nat} (hk : k < ls.length) :
    ∃ b o A' c l, A = some ⟨b, o, none⟩ ∧ b < w.heap.size ∧ w.cell? ⟨b, o + k, none⟩ = some (.slice A' (List.length l) c) ∧ (l.length ≤ 1099511627776 ∧ l.length ≤ c ∧ c ≤ maxLen) ∧ Rd w A' (bvs l) ∧ ls[k]? = some l := by
  obtain ⟨vs, hl, hr, hi⟩ := h
  have hv : vs[k]? = some (vs[k]'(by omega)) := List.getElem?_eq_getElem (by omega)
  obtain ⟨b, o, e, hb, hc⟩ := hr k _ hv
  obtain ⟨A', c, e', hl', hr'⟩ := hi k _ ls[k] hv (List.getElem?_eq_getElem hk)
  exact ⟨b, o, A', c, ls[k], e, hb, by rw [hc, e'], hl', hr', List.getElem?_eq_getElem hk⟩

theorem ret_int {k : IntKind} {a b : Int} (h : a = b) : Ending.returned (.int k a) = .returned (.int k b) := by rw [h]
theorem ret_bool {a b : Bool} (h : a = b) : Ending.returned (.bool a) = .returned (.bool b) := by rw [h]

end Go.Proofs.YtofheinbbefbcaaDoor
/- From a law's walk to its row: what every law's door has alike. -/
namespace Go.Proofs.YtofheinbbefbcaaDoor
open Go Go.ChangeShapes Go.WideShapes Go.ChangeAt Go.RowKit
set_option maxRecDepth 100000

section
variable {H : Type} {enc : TypeId × Value → H} {P : Program}

/-- Arguments read behind the call as they read before, if what was there is as it was. -/
theorem args_stay (hl : laidOutB P = true) {W W' : World} (hb : Below W.heap.size W W') : ∀ {ts : List TypeId} {vs : List Value} {ds : List (DataW H)} {ps : List MemPlace},
    (∀ t ∈ ts, P.readableRec t = true ∧ t < P.types.size) → DataW.TrodAll enc P W 0 (fun _ => true) true ts vs ds ps → (∀ x ∈ ps, x.block < W.heap.size) →
    DataW.TrodAll enc P W' 0 (fun b => decide (b < W.heap.size)) true ts vs ds ps
  | [], vs, ds, ps, _, h, _ => by
    obtain ⟨rfl, rfl, rfl⟩ := trodAll_nil h
    exact trodAll_mk0
  | t :: ts, vs, ds, ps, ht, h, hp => by
    obtain ⟨v0, vs0, d0, ds0, p0, q0, rfl, rfl, rfl, h0, r0⟩ := trodAll_cons h
    exact trodAll_cons_mk (Below.trod hl (ht t (by simp)).1 (ht t (by simp)).2 h0 hb (fun x hx => hp x (by simp [hx])))
      (args_stay hl hb (fun t' h' => ht t' (by simp [h'])) r0 (fun x hx => hp x (by simp [hx])))

/-- A law that came to true and left all that was there alone has met its row. -/
theorem law_met (hl : laidOutB P = true) {f : Func} {s : ChangeSpec} {T : TypeId} (hT : P.underlying T = some .bool) (hrt : f.resultTypes = #[T]) (hts : ∀ t ∈ f.params.toList, P.readableRec t = true ∧ t < P.types.size) (hvars : s.vars = [])
    {apart : Bool} {W W' : World} {args : Array Value} {ds gs : List (DataW H)} {before : List MemPlace} (hW : DataW.Whole enc P f.params.toList s.vars apart W args.toList ds gs before)
    (hres : (s.fn H (ds ++ gs)).results = [.lit (.bool true)]) (hargs : (s.fn H (ds ++ gs)).args = ds) (hvr : (s.fn H (ds ++ gs)).vars = []) (hb : Below W.heap.size W W') :
    s.post enc P f apart true false false W args (.bool true) W' := by
  have hW0 := hW
  obtain ⟨p, q, hA, hV, rfl, _, _⟩ := hW0
  rw [hvars] at hV
  have hgs : gs = [] ∧ q = [] := trodVars_none hV
  obtain ⟨rfl, rfl⟩ := hgs
  refine ⟨ds, [], _, [], p, [], hW, ?_, ?_, ?_, hb.frame _, fun h => by cases h⟩
  · rw [hres, hrt]
    exact trodAll_mk1 (shut_bool hT true)
  · rw [hargs]
    exact args_stay hl hb hts hA (fun x hx => hW.lt x (by simp [hx]))
  · rw [hvr, hvars]
    rfl
end
end Go.Proofs.YtofheinbbefbcaaDoor
/- Arguments opened: a slice of bytes, of integers; an array of bytes. -/
namespace Go.Proofs.YtofheinbbefbcaaDoor
open Go Go.ChangeShapes Go.WideShapes Go.ChangeAt Go.RowKit
set_option maxRecDepth 100000

section
variable {H : Type} {enc : TypeId × Value → H} {P : Program} {W : World} {base : Nat}

theorem open_bytes_rd {t e : TypeId} (ht : P.underlying t = some (.slice e)) (he : P.underlying e = some (.int .u8)) (hc : P.cellsOf e = 1) {v : Value} {d : DataW H} {p : List MemPlace} (hval : Value.okWide P W .any base t v) (h1 : DataW.Trod enc P W 0 (fun _ => true) true t v d p) :
    ∃ A c, ∃ l : List UInt8, v = .slice A l.length c ∧ l.length ≤ c ∧ c ≤ maxLen ∧ Rd W A (bvs l) := by
  obtain ⟨a1, len, cap, rfl⟩ := okWide_slice ht hval
  obtain ⟨fuel, hf⟩ := h1
  rcases open_ints ht he hc hf with ⟨hcs, hx⟩ | ⟨a, len', cap', zs, hcs, _, hl, hm, hz, hx, hcell, hwz⟩
  · simp [Value.cells] at hcs
    obtain ⟨rfl, rfl, rfl⟩ := hcs
    exact ⟨none, 0, [], rfl, Nat.le_refl _, Nat.zero_le _, Rd.nil _ _⟩
  · simp [Value.cells] at hcs
    obtain ⟨rfl, rfl, rfl⟩ := hcs
    simp only [if_true] at hz
    have hlen : ((zs.take len).map fun n => UInt8.ofNat n.toNat).length = len := by simp; omega
    refine ⟨some a, cap, (zs.take len).map fun n => UInt8.ofNat n.toNat, by rw [hlen], by omega, hm, fun j u hj => ?_⟩
    simp only [bvs, List.map_map, List.getElem?_map, Option.map_eq_some_iff] at hj
    obtain ⟨n, hn, rfl⟩ := hj
    have hjl : j < (zs.take len).length := (List.getElem?_eq_some_iff.1 hn).1
    have hjz : j < zs.length := by simp at hjl; omega
    have hn' : zs[j]? = some n := by
      rw [List.getElem?_take] at hn
      split at hn
      · exact hn
      · cases hn
    obtain ⟨ab, ao, spot⟩ := a
    have hspot : spot = none := by simpa [Addr.add] using World.cell?_spot (hcell 0 (by omega))
    subst hspot
    have hcj := hcell j hjz
    rw [Addr.add_lit] at hcj
    have hb := range_u8 hwz j
    rw [List.getD_eq_getElem?_getD, hn'] at hcj
    rw [hn'] at hb
    simp only [Option.getD_some] at hcj hb
    refine ⟨ab, ao, rfl, World.block_lt_of_cell? W _ hcj, ?_⟩
    rw [hcj]
    simp only [Function.comp, bv, UInt8.toNat_ofNat']
    congr 2
    omega

end
end Go.Proofs.YtofheinbbefbcaaDoor
/- Arguments opened: a row of ints. -/
namespace Go.Proofs.YtofheinbbefbcaaDoor
open Go Go.ChangeShapes Go.WideShapes Go.ChangeAt Go.RowKit
set_option maxRecDepth 100000

/-- Numbers that an int can be. -/
def I64 (n : Int) : Prop := -9223372036854775808 ≤ n ∧ n ≤ 9223372036854775807
section
variable {H : Type} {enc : TypeId × Value → H} {W : World} {base0 : Nat} {sp : Nat → Bool} {held : Bool} {base : Nat}
end
end Go.Proofs.YtofheinbbefbcaaDoor
/- Entries and states, as plain numbers. -/
namespace Go.Proofs.YtofheinbbefbcaaDoor
open Go Go.RowKit
set_option maxRecDepth 100000

structure En where
  term : Int
  kind : Int
  value : Int
deriving DecidableEq
structure St where
  index : Int
  term : Int
  sum : Int
  level : Int
  final : Bool
deriving DecidableEq
def En.v (e : En) : Value := .agg #[.int .i64 e.term, .int .i64 e.kind, .int .i64 e.value]
def St.v (s : St) : Value := .agg #[.int .i64 s.index, .int .i64 s.term, .int .i64 s.sum, .int .i64 s.level, .bool s.final]
def En.ok (e : En) : Prop := I64 e.term ∧ I64 e.kind ∧ I64 e.value
def St.ok (s : St) : Prop := I64 s.index ∧ I64 s.term ∧ I64 s.sum ∧ I64 s.level

end Go.Proofs.YtofheinbbefbcaaDoor
/- A range over a function whose elements are known ahead: one law for the caller, one word for the iterator's contract; no program of its own is spoken of. -/
namespace Go.Proofs.YtofheinbbefbcaaDoor
open Go Go.RowKit
set_option maxRecDepth 100000

/-- Of the blocks that are there those with S stay as they are. -/
structure KeepB (S : Nat → Prop) (w w' : World) : Prop where
  os : w'.os = w.os
  tape : w'.tape = w.tape
  output : w'.output = w.output
  size : w.heap.size ≤ w'.heap.size
  block : ∀ k, k < w.heap.size → S k → w'.heap[k]? = w.heap[k]?

theorem KeepB.refl (S : Nat → Prop) (w : World) : KeepB S w w := ⟨rfl, rfl, rfl, Nat.le_refl _, fun _ _ _ => rfl⟩
theorem KeepB.trans {S : Nat → Prop} {a b c : World} (h : KeepB S a b) (k : KeepB S b c) : KeepB S a c :=
  ⟨k.os.trans h.os, k.tape.trans h.tape, k.output.trans h.output, Nat.le_trans h.size k.size, fun i hi hs => (k.block i (Nat.lt_of_lt_of_le hi h.size) hs).trans (h.block i hi hs)⟩
theorem KeepB.sub {S T : Nat → Prop} {a b : World} (h : KeepB S a b) (hs : ∀ k, k < a.heap.size → T k → S k) : KeepB T a b :=
  ⟨h.os, h.tape, h.output, h.size, fun k hk ht => h.block k hk (hs k hk ht)⟩
theorem KeepB.drew {S : Nat → Prop} {a b : World} (h : KeepB S a b) : KeepB S a b.drew := ⟨h.os, h.tape, h.output, h.size, h.block⟩
theorem KeepB.drewN {S : Nat → Prop} {a b : World} (h : KeepB S a b) (n : Nat) : KeepB S a (b.drewN n) := ⟨h.os, h.tape, h.output, h.size, h.block⟩
theorem KeepB.alloc {S : Nat → Prop} {a b : World} (h : KeepB S a b) (o : Obj) : KeepB S a (b.alloc o) :=
  h.trans ⟨rfl, rfl, rfl, by simp, fun k hk _ => Below.heap_alloc _ _ _ hk⟩
theorem KeepB.setCell {S : Nat → Prop} {a b : World} (h : KeepB S a b) {p : Addr} (hp : p.block < a.heap.size → ¬ S p.block) (u : Value) : KeepB S a (b.setCell p u) :=
  ⟨h.os, h.tape, h.output, by simpa [World.setCell] using h.size, fun k hk hs => (Below.heap_setCell b p u k (fun e => by subst e; exact hp hk hs)).trans (h.block k hk hs)⟩
theorem KeepB.grown {S : Nat → Prop} {a b c : World} {row : Option Nat} (h : KeepB S a b) (hg : b.grownBy c row) (hr : ∀ k, row = some k → k < a.heap.size → ¬ S k) : KeepB S a c :=
  ⟨hg.os.trans h.os, hg.tape.trans h.tape, hg.output.trans h.output, Nat.le_trans h.size hg.size, fun k hk hs =>
    (hg.block k (Nat.lt_of_lt_of_le hk h.size) (fun e => hr k e.symm hk hs)).trans (h.block k hk hs)⟩
theorem KeepB.of_below {S : Nat → Prop} {B : Nat} {a b : World} (h : Below B a b) (hs : ∀ k, k < a.heap.size → S k → k < B) : KeepB S a b :=
  ⟨h.os, h.tape, h.output, h.size, fun k hk ht => h.block k (hs k hk ht)⟩
theorem KeepB.below {S : Nat → Prop} {a b c : World} (h : KeepB S a b) (k : Below b.heap.size b c) : KeepB S a c :=
  h.trans (KeepB.of_below k (fun _ hk _ => hk))
theorem KeepB.to_below {S : Nat → Prop} {B : Nat} {a b : World} (h : KeepB S a b) (hB : B ≤ a.heap.size) (hs : ∀ k, k < B → S k) : Below B a b :=
  ⟨h.os, h.tape, h.output, h.size, fun k hk => h.block k (Nat.lt_of_lt_of_le hk hB) (hs k hk)⟩
theorem KeepB.putObj {S : Nat → Prop} {a b : World} (h : KeepB S a b) (l : Nat) (o : Obj) (hl : l < a.heap.size → ¬ S l) : KeepB S a (b.putObj l o) :=
  ⟨h.os, h.tape, h.output, by simpa [World.putObj] using h.size, fun k hk hs => (World.putObj_heap_other (by rintro rfl; exact hl hk hs)).trans (h.block k hk hs)⟩
theorem KeepB.cell {S : Nat → Prop} {a b : World} (h : KeepB S a b) {p : Addr} {u : Value} (hs : S p.block) (hc : a.cell? p = some u) : b.cell? p = some u := by
  have hb : p.block < a.heap.size := World.block_lt_of_cell? a p hc
  exact (World.cell?_of_block (h.block _ hb hs)).trans hc
theorem KeepB.frozen {S : Nat → Prop} {a b : World} (h : KeepB S a b) {p : Addr} (hb : p.block < a.heap.size) (hs : S p.block) : b.frozen? p = a.frozen? p :=
  World.frozen?_of_block (h.block _ hb hs)
theorem KeepB.heap {S : Nat → Prop} {a b : World} (h : KeepB S a b) {k : Nat} {o : Obj} (hs : S k) (ho : a.heap[k]? = some o) : b.heap[k]? = some o :=
  (h.block k (Array.getElem?_eq_some_iff.1 ho).1 hs).trans ho
theorem KeepB.rd {S : Nat → Prop} {a b : World} (h : KeepB S a b) {A : Option Addr} {xs : List Value} (hr : Rd a A xs) (hs : ∀ p, A = some p → S p.block) : Rd b A xs := fun j u hj => by
  obtain ⟨g, o, rfl, hb, hc⟩ := hr j u hj
  exact ⟨g, o, rfl, Nat.lt_of_lt_of_le hb h.size, h.cell (p := ⟨g, o + j, none⟩) (hs ⟨g, o, none⟩ rfl) hc⟩

/-- A variable that lies in a block of its own. -/
def Box (W : World) (b : Nat) (v : Value) : Prop := W.cell? ⟨b, 0, none⟩ = some v ∧ W.frozen? ⟨b, 0, none⟩ = false
theorem Box.lt {W : World} {b : Nat} {v : Value} (h : Box W b v) : b < W.heap.size := World.block_lt_of_cell? W ⟨b, 0, none⟩ h.1
theorem Box.keep {S : Nat → Prop} {W W' : World} {b : Nat} {v : Value} (h : Box W b v) (hk : KeepB S W W') (hs : S b) : Box W' b v :=
  ⟨hk.cell (p := ⟨b, 0, none⟩) hs h.1, (hk.frozen (p := ⟨b, 0, none⟩) h.lt hs).trans h.2⟩
theorem Box.below {B : Nat} {W W' : World} {b : Nat} {v : Value} (h : Box W b v) (hk : Below B W W') (hs : b < B) : Box W' b v :=
  ⟨(hk.cell (p := ⟨b, 0, none⟩) hs).trans h.1, (hk.frozen (p := ⟨b, 0, none⟩) hs).trans h.2⟩
theorem Box.new (W : World) (v : Value) (t : TypeId) : Box (W.alloc (.cells #[v] t)) W.heap.size v := ⟨by simp, by simp⟩
theorem Box.alloc {W : World} {b : Nat} {v : Value} (h : Box W b v) (o : Obj) : Box (W.alloc o) b v := h.keep ((KeepB.refl (fun _ => True) W).alloc o) trivial
theorem Box.drew {W : World} {b : Nat} {v : Value} (h : Box W b v) : Box W.drew b v := h
theorem Box.set {W : World} {b : Nat} {v : Value} (h : Box W b v) (u : Value) : Box (W.setCell ⟨b, 0, none⟩ u) b u :=
  ⟨World.cell?_setCell_same' _ _ _ (by rw [h.1]; rfl), by rw [World.frozen?_setCell]; exact h.2⟩
theorem Box.other {W : World} {b : Nat} {v : Value} (h : Box W b v) {p : Addr} (hp : p.block ≠ b) (u : Value) : Box (W.setCell p u) b v :=
  h.keep ((KeepB.refl (fun k => k ≠ p.block) W).setCell (fun _ => by simp) u) (fun e => hp e.symm)
theorem below_keep {S : Nat → Prop} {B : Nat} {a b c : World} (h : Below B a b) (hk : KeepB S b c) (hB : B ≤ b.heap.size) (hs : ∀ k, k < B → S k) : Below B a c :=
  h.trans (hk.to_below hB hs)

/-- AN ITERATOR'S CONTRACT: from world w on, called with any yield, it hands over xs, one by one, till a round says no. It reads what lies below n₀ and its own blocks (from M to w's end), which a round leaves as they are; it writes only its own and new ones. -/
def Iter {α : Type} (P : Program) (g : Nat) (lb : Array Value) (encs : α → Array Value) (xs : List α) (n₀ M : Nat) (w : World) : Prop :=
  ∀ (l : Nat) (J : Nat → World → Prop) (Jx : World → Prop) (W : World),
    Below w.heap.size w W →
    (∀ k A B, J k A → KeepB (fun b => b < M ∨ w.heap.size ≤ b) A B → J k B) →
    (∀ A B, Jx A → KeepB (fun b => b < M ∨ w.heap.size ≤ b) A B → Jx B) →
    (∀ k x A, xs[k]? = some x → J k A → w.heap.size ≤ A.heap.size → YieldAt Fence.wide 8 P l (encs x) A fun e B =>
      (e = .returned (.bool true) ∧ J (k + 1) B ∧ KeepB (fun b => b < n₀ ∨ (M ≤ b ∧ b < w.heap.size)) A B) ∨
      (e = .returned (.bool false) ∧ Jx B ∧ KeepB (fun b => b < n₀ ∨ (M ≤ b ∧ b < w.heap.size)) A B)) →
    J 0 W → CallsIn Fence.wide 9 P g (#[.func (.yield l) #[] #[]] ++ lb) W fun e B => (∃ v, e = .returned v) ∧ (J xs.length B ∨ Jx B)

/-- How a round's body may be left. -/
def roundEnd (S : Nat → Prop) (I' : World → Prop) (Ix : Code → World → Prop) (A : World) : Exit → Act → World → Prop
  | .normal, _, B => KeepB S A B ∧ I' B
  | .ret, _, B => KeepB S A B ∧ Ix .ret B
  | .exit id, _, B => KeepB S A B ∧ Ix (.exit id) B
  | .goto t, _, B => KeepB S A B ∧ Ix (.goto t) B
  | .panic _, _, _ => False
  | .outgrown, _, _ => False

variable {P : Program}

set_option maxHeartbeats 1000000 in
theorem range_law {α : Type} {g : Operand} {ps : Array Tmp} {assign body : Code} {Q : Exit → Act → World → Prop} {a : Act} {w : World}
    {gf : Nat} {lb : Array Value} (hg : a.eval g = .func (.func gf) #[] lb) (eg : ∀ args w, (callFunc gf args).run P w = .ok (.enter gf args) w)
    {encs : α → Array Value} {xs : List α} {n₀ M : Nat} (hit : Iter P gf lb encs xs n₀ M w) (hnM : n₀ ≤ M) (hM : M ≤ w.heap.size) (hps : ∀ x, (encs x).size = ps.size)
    (I : Nat → World → Prop) (Ix : Code → World → Prop)
    (hI : ∀ k A B, I k A → KeepB (fun b => b < M ∨ w.heap.size + 2 ≤ b) A B → I k B)
    (hIx : ∀ c A B, Ix c A → KeepB (fun b => b < M ∨ w.heap.size + 2 ≤ b) A B → Ix c B)
    (h0 : I 0 w)
    (hround : ∀ l k x A, xs[k]? = some x → I k A → w.heap.size + 2 ≤ A.heap.size →
      assign.wpIn (Fence.wide.inRound l) 8 P (Exit.then (fun a1 A1 => KeepB (fun _ => True) A A1 ∧
        ∀ A2, KeepB (fun b => b < w.heap.size ∨ w.heap.size + 2 ≤ b) A1 A2 → I k A2 →
          body.wpIn (Fence.wide.inRound l) 8 P (roundEnd (fun b => b < n₀ ∨ (M ≤ b ∧ b < w.heap.size + 2)) (I (k + 1)) Ix A2) a1 A2) (fun _ _ _ => False))
        { tmps := (ps.zip (encs x)).foldl (fun t (p, v) => t.setIfInBounds p v) a.tmps, defers := [] } A)
    (hdone : ∀ A, I xs.length A → A.heap[w.heap.size]? = some (.deferred (some [])) → Q .normal { a with defers := { target := .collected w.heap.size, args := #[] } :: a.defers } A)
    (hstop : ∀ c A, Ix c A → A.heap[w.heap.size]? = some (.deferred (some [])) → c.wpIn Fence.wide 9 P Q { a with defers := { target := .collected w.heap.size, args := #[] } :: a.defers } A) :
    (Code.rangeFunc g ps assign body).wpIn Fence.wide 9 P Q a w := by
  refine wpIn_rangeFunc ?_
  intro fn hfn
  obtain ⟨rec, hrec⟩ : ∃ rec : LoopState → Option Code → Loop, rec = fun st pe => { state := st, pending := pe, fn, tmps := a.tmps, params := ps, assign, body, defers := w.heap.size } := ⟨_, rfl⟩
  obtain ⟨W1, hW1⟩ : ∃ W1, (w.alloc (.deferred (some []))).alloc (.loop (rec .ready none)) = W1 := ⟨_, rfl⟩
  have hL1 : W1.heap[w.heap.size + 1]? = some (.loop (rec .ready none)) := by
    rw [← hW1]; have := World.alloc_heap_new (w.alloc (.deferred (some []))) (.loop (rec .ready none)); rwa [World.size_alloc] at this
  have hK1 : W1.heap[w.heap.size]? = some (.deferred (some [])) := by
    rw [← hW1]; exact (Below.heap_alloc _ _ _ (by simp)).trans (World.alloc_heap_new w _)
  have hs1 : W1.heap.size = w.heap.size + 2 := by rw [← hW1]; simp
  have hkw : ∀ S, KeepB S w W1 := fun S => by rw [← hW1]; exact ((KeepB.refl S w).alloc _).alloc _
  have hb1 : Below w.heap.size w W1 := (hkw (fun _ => True)).to_below (Nat.le_refl _) (fun _ _ => trivial)
  have hI1 : I 0 W1 := hI 0 _ _ h0 (hkw _)
  refine ⟨w.heap.size + 1, [{ target := .collected w.heap.size, args := #[] }], W1, { target := .fn (.func gf) lb, args := #[.func (.yield (w.heap.size + 1)) #[] #[]] }, W1, gf,
    #[.func (.yield (w.heap.size + 1)) #[] #[]] ++ lb, W1, ?_, ?_, ?_, ?_, (fun h => by cases h), ?_⟩
  · rw [← hW1, hrec]; exact run_enterLoop_outer _ _ _ _ _
  · simp only [resolve, hg]
    simp [go_sem]
  · intro f' hf'; simp [Fence.wide]
  · simp [invoke, go_sem, eg]
  · have hit' := hit (w.heap.size + 1)
      (fun k W => I k W ∧ W.heap[w.heap.size + 1]? = some (.loop (rec .ready none)) ∧ W.heap[w.heap.size]? = some (.deferred (some [])))
      (fun W => ∃ c, Ix c W ∧ W.heap[w.heap.size + 1]? = some (.loop (rec .done (some c))) ∧ W.heap[w.heap.size]? = some (.deferred (some [])))
      W1 hb1
      (fun k A B hs hk => ⟨hI k A B hs.1 (hk.sub (fun b _ h => by omega)), hk.heap (by omega) hs.2.1, hk.heap (by omega) hs.2.2⟩)
      (fun A B hs hk => by
        obtain ⟨c, hc, h2, h3⟩ := hs
        exact ⟨c, hIx c A B hc (hk.sub (fun b _ h => by omega)), hk.heap (by omega) h2, hk.heap (by omega) h3⟩)
      ?_ ⟨hI1, hL1, hK1⟩
    · refine (callsIn_wide.2 (callsIn_wide.1 hit')).mono ?_
      rintro e W2 ⟨⟨v, rfl⟩, (⟨hi, hl, hk⟩ | ⟨c, hi, hl, hk⟩)⟩
      · exact ⟨none, _, by have := run_endLoop (P := P) hl (by rw [hrec]; simp); rw [hrec] at this; exact this,
          hdone _ (hI _ _ _ hi ((KeepB.refl _ _).putObj _ _ (by omega))) ((World.putObj_heap_other (by omega)).trans hk)⟩
      · exact ⟨some c, _, by have := run_endLoop (P := P) hl (by rw [hrec]; simp); rw [hrec] at this; exact this,
          hstop c _ (hIx _ _ _ hi ((KeepB.refl _ _).putObj _ _ (by omega))) ((World.putObj_heap_other (by omega)).trans hk)⟩
    · rintro k x W hx ⟨hi, hl, hk⟩ hsz
      have hlt : w.heap.size + 1 < W.heap.size := (Array.getElem?_eq_some_iff.1 hl).1
      have hy := run_yield (P := P) (args := encs x) hl (by rw [hrec]; exact hps x)
      rw [hrec] at hy
      refine ⟨fn, _, assign, body, hy, roundIn_of_wpIn trivial ?_⟩
      refine wpIn_mono (hround (w.heap.size + 1) k x W hx hi (by omega)) ?_
      rintro e a1 A1 hp
      cases e with
      | normal =>
        obtain ⟨hk1, hbody⟩ := hp
        have hl1 : A1.heap[w.heap.size + 1]? = some (.loop (rec .ready none)) := hk1.heap trivial hl
        have hd1 : A1.heap[w.heap.size]? = some (.deferred (some [])) := hk1.heap trivial hk
        have hlt1 : w.heap.size + 1 < A1.heap.size := (Array.getElem?_eq_some_iff.1 hl1).1
        refine ⟨_, run_beginRound hl1 (by rw [hrec]), ?_⟩
        obtain ⟨A2, hA2⟩ : ∃ A2, A1.putObj (w.heap.size + 1) (.loop { rec .ready none with state := .busy }) = A2 := ⟨_, rfl⟩
        rw [hA2]
        have hk2 : KeepB (fun b => b ≠ w.heap.size + 1) A1 A2 := by rw [← hA2]; exact (KeepB.refl _ _).putObj _ _ (by omega)
        have hl2 : A2.heap[w.heap.size + 1]? = some (.loop { rec .ready none with state := .busy }) := by rw [← hA2]; exact World.putObj_heap_same hlt1
        have hd2 : A2.heap[w.heap.size]? = some (.deferred (some [])) := hk2.heap (by omega) hd1
        have hkeep12 : KeepB (fun b => b < n₀ ∨ (M ≤ b ∧ b < w.heap.size)) W A2 := (hk1.sub (fun _ _ _ => trivial)).trans (hk2.sub (fun b _ h => by omega))
        have fin : ∀ (jump : Option Code) (W3 : World), KeepB (fun b => b < n₀ ∨ (M ≤ b ∧ b < w.heap.size + 2)) A2 W3 →
            (Instr.endRound (w.heap.size + 1) jump).run P W3 = .ok (.bool jump.isNone) (W3.putObj (w.heap.size + 1) (.loop (rec (if jump.isNone then .ready else .done) jump))) ∧
            (W3.putObj (w.heap.size + 1) (.loop (rec (if jump.isNone then .ready else .done) jump))).heap[w.heap.size + 1]? = some (.loop (rec (if jump.isNone then .ready else .done) jump)) ∧
            (W3.putObj (w.heap.size + 1) (.loop (rec (if jump.isNone then .ready else .done) jump))).heap[w.heap.size]? = some (.deferred (some [])) ∧
            KeepB (fun b => b < n₀ ∨ (M ≤ b ∧ b < w.heap.size)) W (W3.putObj (w.heap.size + 1) (.loop (rec (if jump.isNone then .ready else .done) jump))) := fun jump W3 hk3 => by
          have hl3 := hk3.heap (by omega) hl2
          have := run_endRound (P := P) jump hl3
          rw [hrec] at this ⊢
          refine ⟨this, World.putObj_heap_same (Array.getElem?_eq_some_iff.1 hl3).1, (World.putObj_heap_other (by omega)).trans (hk3.heap (by omega) hd2), ?_⟩
          exact (hkeep12.trans (hk3.sub (fun b _ h => by omega))).putObj _ _ (by omega)
        have hiA2 : I k A2 := hI k A1 A2 (hI k W A1 hi (hk1.sub (fun _ _ _ => trivial))) (hk2.sub (fun b _ h => by omega))
        refine wpIn_mono (hbody A2 (hk2.sub (fun b _ h => by omega)) hiA2) ?_
        have hst : ∀ (jump : Option Code) (W3 : World), KeepB (fun b => b < M ∨ w.heap.size + 2 ≤ b) W3 (W3.putObj (w.heap.size + 1) (.loop (rec (if jump.isNone then .ready else .done) jump))) := fun jump W3 => (KeepB.refl _ _).putObj _ _ (by omega)
        rintro e a3 W3 hp
        cases e with
        | normal =>
          obtain ⟨hk3, hi3⟩ := hp
          obtain ⟨hr, hl4, hk4, hk5⟩ := fin none W3 hk3
          exact ⟨_, _, hr, .inl ⟨rfl, ⟨hI _ _ _ hi3 (hst none W3), hl4, hk4⟩, hk5⟩⟩
        | ret =>
          obtain ⟨hk3, hi3⟩ := hp
          obtain ⟨hr, hl4, hk4, hk5⟩ := fin (some .ret) W3 hk3
          exact ⟨_, _, hr, .inr ⟨rfl, ⟨.ret, hIx _ _ _ hi3 (hst _ W3), hl4, hk4⟩, hk5⟩⟩
        | exit id =>
          obtain ⟨hk3, hi3⟩ := hp
          obtain ⟨hr, hl4, hk4, hk5⟩ := fin (some (.exit id)) W3 hk3
          exact ⟨_, _, hr, .inr ⟨rfl, ⟨.exit id, hIx _ _ _ hi3 (hst _ W3), hl4, hk4⟩, hk5⟩⟩
        | goto t =>
          obtain ⟨hk3, hi3⟩ := hp
          obtain ⟨hr, hl4, hk4, hk5⟩ := fin (some (.goto t)) W3 hk3
          exact ⟨_, _, hr, .inr ⟨rfl, ⟨.goto t, hIx _ _ _ hi3 (hst _ W3), hl4, hk4⟩, hk5⟩⟩
        | panic ch => exact hp.elim
        | outgrown => exact hp.elim
      | _ => exact hp.elim

/-- A scope with one label: what holds at each jump, and a measure. -/
theorem scope_goto {c X : Code} {Q : Exit → Act → World → Prop} {a : Act} {w : World} (l : Nat) (J : Act → World → Prop) (μ : Act → World → Nat) (hf : findLabel c l = some (.seq .skip X))
    (pass : ∀ a w, J a w → X.wpIn Fence.wide 9 P (Exit.jump l (fun a' w' => J a' w' ∧ μ a' w' < μ a w) Q) a w)
    (first : (∀ a w, J a w → X.wpIn Fence.wide 9 P (Exit.jump l J Q) a w) → c.wpIn Fence.wide 9 P (Exit.jump l J Q) a w) : (Code.scope c).wpIn Fence.wide 9 P Q a w := by
  have hX : ∀ a w, J a w → X.wpIn Fence.wide 9 P (Exit.jump l J Q) a w := fun a w hJ =>
    wpIn_mono (pass a w hJ) (fun e a' w' h => by
      cases e with
      | goto l' => exact ⟨h.1, h.2.1⟩
      | _ => exact h)
  exact wpIn_wide.2 (wp_scope_jumps l J μ hf (wpIn_wide.1 (first hX)) (fun a w hJ => wp_seq (wp_skip (wpIn_wide.1 (pass a w hJ)))))
end Go.Proofs.YtofheinbbefbcaaDoor
/- A map that the call makes out of a literal with int keys, and a look into it. -/
namespace Go.Proofs.YtofheinbbefbcaaDoor
open Go Go.RowKit Go.MapKept
set_option maxRecDepth 100000

/-- Block r is a map with these entries. -/
def MapIs (w : World) (r : Nat) (l : List (Int × Value)) : Prop :=
  ∃ es c, w.heap[r]? = some (.map es c) ∧ es.toList.map (fun e => (e.key, e.val)) = l.map fun p => (.int .i64 p.1, p.2)
theorem MapIs.lt {w : World} {r : Nat} {l : List (Int × Value)} (h : MapIs w r l) : r < w.heap.size := by
  obtain ⟨es, c, h1, _⟩ := h; exact (Array.getElem?_eq_some_iff.1 h1).1
theorem MapIs.keep {S : Nat → Prop} {w w' : World} {r : Nat} {l : List (Int × Value)} (h : MapIs w r l) (hk : KeepB S w w') (hs : S r) : MapIs w' r l := by
  obtain ⟨es, c, h1, h2⟩ := h; exact ⟨es, c, hk.heap hs h1, h2⟩
theorem MapIs.below {B : Nat} {w w' : World} {r : Nat} {l : List (Int × Value)} (h : MapIs w r l) (hb : Below B w w') (hr : r < B) : MapIs w' r l := by
  obtain ⟨es, c, h1, h2⟩ := h; exact ⟨es, c, (hb.block r hr).trans h1, h2⟩
theorem MapIs.made (w : World) : MapIs (w.alloc (.map #[] 0)) w.heap.size [] := ⟨#[], 0, (heap_alloc w _).1, rfl⟩

section
variable {P : Program} {w : World} {t kt e : TypeId} {r : Nat} {l : List (Int × Value)}
end
end Go.Proofs.YtofheinbbefbcaaDoor
/- What does not write. -/
namespace Go.Proofs.YtofheinbbefbcaaDoor
open Go Go.RowKit
set_option maxRecDepth 100000

/-- On no road does it write. -/
def NW {α : Type} (P : Program) : Sem α → Prop
  | .pure _ => True
  | .load _ _ k => ∀ v, NW P (k v)
  | .store _ _ _ _ => False
  | .new _ k => ∀ r, NW P (k r)
  | .shape _ k => ∀ s, NW P (k s)
  | .freeze _ _ _ => False
  | .frozen _ k => ∀ b, NW P (k b)
  | .getObj _ k => ∀ o, NW P (k o)
  | .setObj _ _ _ => False
  | .choose _ k => ∀ n, NW P (k n)
  | .sys _ _ => False
  | .program k => NW P (k P)
  | .mark _ k => NW P k
  | .halt _ => True

theorem NW.bind_ {α β : Type} {P : Program} (e : Sem α) (f : α → Sem β) (he : NW P e) (hf : ∀ a, NW P (f a)) : NW P (e >>= f) := by
  show NW P (Sem.bind e f)
  induction e with
  | pure a => exact hf a
  | load m a k ih => exact fun v => ih v (he v)
  | store => exact he.elim
  | new o k ih => exact fun v => ih v (he v)
  | shape s k ih => exact fun v => ih v (he v)
  | freeze => exact he.elim
  | frozen a k ih => exact fun v => ih v (he v)
  | getObj r k ih => exact fun v => ih v (he v)
  | setObj => exact he.elim
  | choose q k ih => exact fun v => ih v (he v)
  | sys => exact he.elim
  | program k ih => exact ih _ he
  | mark m k ih => exact ih he
  | halt h => trivial
section
variable {P : Program}
theorem NW.pure_ {α : Type} (a : α) : NW P (pure a : Sem α) := trivial
theorem NW.stuck_ {α : Type} (h : String) : NW P (stuck h : Sem α) := trivial
theorem NW.unsupported_ {α : Type} (h : Unsupported) : NW P (unsupported h : Sem α) := trivial
theorem NW.getObj_ (r : Nat) : NW P (getObj r) := fun _ => trivial
theorem NW.choose_ (q : Question) : NW P (choose q) := fun _ => trivial
theorem NW.underlying_ (t : TypeId) : NW P (underlying t) := by
  unfold underlying
  refine NW.bind_ _ _ trivial fun p => ?_
  split <;> trivial
end
end Go.Proofs.YtofheinbbefbcaaDoor
/- Which operations do not write. -/
namespace Go.Proofs.YtofheinbbefbcaaDoor
open Go Go.RowKit
set_option maxRecDepth 100000
section
variable {P : Program}
theorem NW.asBool_ (v : Value) : NW P (asBool v) := by
  unfold asBool
  split <;> trivial
end
end Go.Proofs.YtofheinbbefbcaaDoor
/- Operations that only read. -/
namespace Go.Proofs.YtofheinbbefbcaaDoor
open Go Go.RowKit
set_option maxRecDepth 100000
section
variable {P : Program}
theorem NW.stringOp_ (op : BinOp) (x y : ByteArray) : NW P (Op.stringOp op x y) := by
  unfold Op.stringOp
  dsimp only
  (repeat' split) <;> trivial
end
end Go.Proofs.YtofheinbbefbcaaDoor
/- Lights: operations that only read, by their kind. -/
namespace Go.Proofs.YtofheinbbefbcaaDoor
open Go Go.RowKit
set_option maxRecDepth 100000
section
variable {P : Program}
theorem NW.len_ (ts : Array TypeId) (t : TypeId) (vs : Array Value) : NW P (Builtin.len_ ts t vs) := by
  unfold Builtin.len_
  repeat' first | exact NW.underlying_ _ | exact NW.getObj_ _ | exact NW.pure_ _ | exact NW.stuck_ _ | (refine NW.bind_ _ _ ?_ fun _ => ?_) | split | dsimp only
theorem NW.foldlM_ {α β : Type} (f : β → α → Sem β) (hf : ∀ b a, NW P (f b a)) : ∀ (l : List α) (b : β), NW P (l.foldlM f b)
  | [], b => trivial
  | x :: l, b => by
    rw [List.foldlM_cons]
    exact NW.bind_ _ _ (hf b x) fun r => NW.foldlM_ f hf l r
theorem NW.min_ (ts : Array TypeId) (t : TypeId) (vs : Array Value) : NW P (Builtin.min_ ts t vs) := by
  unfold Builtin.min_
  split
  · exact NW.stuck_ _
  · refine NW.foldlM_ _ (fun a b => ?_) _ _
    unfold Builtin.min2
    repeat' first | exact NW.choose_ _ | exact NW.asBool_ _ | exact NW.stringOp_ _ _ _ | exact NW.unsupported_ _ | exact NW.pure_ _ | exact NW.stuck_ _ | (refine NW.bind_ _ _ ?_ fun _ => ?_) | split | dsimp only

end
end Go.Proofs.YtofheinbbefbcaaDoor
/- A region that draws its order, with calls that make memory: lights first, calls one by one, each in a world that has grown however. -/
namespace Go.Proofs.YtofheinbbefbcaaDoor
open Go Go.RowKit
set_option maxRecDepth 100000
section
variable {P : Program} {ops : Array Oper} {Q : Exit → Act → World → Prop} {md : Region.Mode}

/-- Whatever order is picked from here on, and however the world grows meanwhile. -/
def wpAnyM (P : Program) (md : Region.Mode) (ops : Array Oper) (Q : Exit → Act → World → Prop) : Nat → Array Bool → Act → World → Prop
  | 0, listed, a, w => Region.ready md ops listed = [] ∧ ∀ w1, Below w.heap.size w w1 → Q .normal a w1
  | fuel + 1, listed, a, w => ∀ w1, Below w.heap.size w w1 → (Region.ready md ops listed = [] → Q .normal a w1) ∧
    ∀ i ∈ Region.ready md ops listed, wpOp P ops Q i (fun a' w' => Below w1.heap.size w1 w' ∧ wpAnyM P md ops Q fuel (listed.setIfInBounds i true) a' w') a w1

theorem wpAnyM.any : ∀ (fuel : Nat) (listed : Array Bool) (a : Act) (w : World), wpAnyM P md ops Q fuel listed a w → wpAny P md ops Q fuel listed a w
  | 0, _, _, w, h => ⟨h.1, h.2 w (Below.refl _ _)⟩
  | fuel + 1, _, _, w, h => ⟨(h w (Below.refl _ _)).1, fun i hi => wpOp_mono (fun a' w' h' => wpAnyM.any fuel _ a' w' h'.2) ((h w (Below.refl _ _)).2 i hi)⟩
theorem wpAnyM.mono : ∀ {fuel : Nat} {listed : Array Bool} {a : Act} {w w' : World}, wpAnyM P md ops Q fuel listed a w → Below w.heap.size w w' → wpAnyM P md ops Q fuel listed a w'
  | 0, _, _, _, _, h, hb => ⟨h.1, fun w1 h1 => h.2 w1 (bTr hb h1)⟩
  | _ + 1, _, _, _, _, h, hb => fun w1 h1 => h w1 (bTr hb h1)
theorem YieldsIf.grow {oi : Oper} {v : Value} {a : Act} {w w' : World} (h : YieldsIf P ops (fun W => Below w.heap.size w W) oi v a) (hb : Below w.heap.size w w') : YieldsIf P ops (fun W => Below w'.heap.size w' W) oi v a :=
  h.imp (fun ⟨h1, h2⟩ => ⟨h1, fun W hW => h2 W (bTr hb hW)⟩) id
/-- The end of a batch of lights. -/
def Lend (A : Act) (wE : World) : Exit → Act → World → Prop := fun e a w => e = .normal ∧ a = A ∧ w = wE

/-- Those numbers' operations. -/
def Sel (ops : Array Oper) : List Nat → List Oper → Prop
  | [], [] => True
  | i :: is, o :: ls => ops[i]? = some o ∧ Sel ops is ls
  | _, _ => False
def listAll : Array Bool → List Nat → Array Bool
  | listed, [] => listed
  | listed, i :: is => listAll (listed.setIfInBounds i true) is
def pickI : List Bool → Nat → List Nat
  | [], _ => []
  | true :: m, k => k :: pickI m (k + 1)
  | false :: m, k => pickI m (k + 1)
def pickL : List Bool → List Oper → List Oper
  | true :: m, o :: l => o :: pickL m l
  | false :: m, _ :: l => pickL m l
  | _, _ => []
theorem sel_pick : ∀ (m : List Bool) (l : List Oper) (k : Nat), m.length ≤ l.length → (∀ j, l[j]? = ops[k + j]?) → Sel ops (pickI m k) (pickL m l)
  | [], [], _, _, _ => trivial
  | [], _ :: _, _, _, _ => trivial
  | _ :: _, [], _, h, _ => by simp at h
  | b :: m, o :: l, k, h, hj => by
    have h0 : ops[k]? = some o := by simpa using (hj 0).symm
    have ih := sel_pick m l (k + 1) (by simpa using h) (fun j => by have := hj (j + 1); simpa [Nat.add_assoc, Nat.add_comm 1 j] using this)
    cases b with
    | true => exact ⟨h0, ih⟩
    | false => exact ih

end
end Go.Proofs.YtofheinbbefbcaaDoor
/- Calls that give the same in every grown world may be taken first; two calls that are ready at once, in one way. -/
namespace Go.Proofs.YtofheinbbefbcaaDoor
open Go Go.RowKit
set_option maxRecDepth 100000
section
variable {P : Program} {ops : Array Oper} {Q : Exit → Act → World → Prop} {md : Region.Mode}

/-- It gives v, and only makes memory. -/
def Gives (P : Program) (v : Value) (w1 : World) : Result Next → Prop
  | .ok (.value u) w' => u = v ∧ Below w1.heap.size w1 w'
  | .ok (.enter f args) w' => Calls P f args w' fun e w'' => e = .returned v ∧ Below w1.heap.size w1 w''
  | .ok .skip w' => undef = v ∧ Below w1.heap.size w1 w'
  | .ok (.row row args) w' => Rows P row args w' fun u w'' => u = v ∧ Below w1.heap.size w1 w''
  | _ => False
/-- .. in every world grown from w. -/
def GivesIf (P : Program) (ops : Array Oper) (o : Oper) (v : Value) (a : Act) (w : World) : Prop :=
  Region.wanted o (yielded ops a.tmps) = true ∧ ∀ w1, Below w.heap.size w w1 → Gives P v w1 ((execOp a.eval o).run P w1)
theorem GivesIf.grow {oi : Oper} {v : Value} {a : Act} {w w' : World} (h : GivesIf P ops oi v a w) (hb : Below w.heap.size w w') : GivesIf P ops oi v a w' :=
  ⟨h.1, fun W hW => h.2 W (bTr hb hW)⟩
theorem GivesIf.wpOp {i : Nat} {o : Oper} {v : Value} {a : Act} {w w1 : World} (hi : ops[i]? = some o) (hy : GivesIf P ops o v a w) (h1 : Below w.heap.size w w1)
    {K : Act → World → Prop} (h : ∀ w', Below w1.heap.size w1 w' → K (a.put o.dst v) w') : wpOp P ops Q i K a w1 := by
  unfold Go.wpOp
  simp only [hi]
  rw [if_pos hy.1]
  refine .inl ?_
  have hg := hy.2 w1 h1
  unfold Oper.wp
  generalize (execOp a.eval o).run P w1 = r at *
  cases r with
  | ok n w' =>
    cases n <;> simp only [Gives] at hg <;> simp only [Oper.upon]
    case value u => obtain ⟨rfl, hb⟩ := hg; exact h _ hb
    case enter f args =>
      refine Calls.mono hg fun e w'' he => ?_
      obtain ⟨rfl, hb⟩ := he
      exact h _ hb
    case skip => obtain ⟨rfl, hb⟩ := hg; exact h _ hb
    case row row args =>
      refine Rows.mono hg fun u w'' he => ?_
      obtain ⟨rfl, hb⟩ := he
      exact h _ hb
  | halt x w' => exact hg.elim

end
end Go.Proofs.YtofheinbbefbcaaDoor
/- The begin of a region that draws its order, walked in whatever grown world. -/
namespace Go.Proofs.YtofheinbbefbcaaDoor
open Go Go.RowKit
set_option maxRecDepth 100000
section
variable {P : Program} {Q : Exit → Act → World → Prop}
theorem Lend.ok {A : Act} {w : World} : Lend A w .normal A w := ⟨rfl, rfl, rfl⟩
end
end Go.Proofs.YtofheinbbefbcaaDoor
/- The walks of entries and states: which may be. -/
namespace Go.Proofs.YtofheinbbefbcaaDoor
open Go Go.RowKit
set_option maxRecDepth 100000

end Go.Proofs.YtofheinbbefbcaaDoor
/- '==' of two states, of two entries. -/
namespace Go.Proofs.YtofheinbbefbcaaDoor
open Go Go.RowKit
set_option maxRecDepth 100000

theorem run_eq_state (w : World) (a b : St) : (Op.equalIn 10000 124 a.v b.v).run Tryd.prog w = .ok (decide (a = b)) w := by
  obtain ⟨a1, a2, a3, a4, a5⟩ := a
  obtain ⟨b1, b2, b3, b4, b5⟩ := b
  dsimp only [St.v, En.v]
  by_cases h1 : a1 = b1 <;> by_cases h2 : a2 = b2 <;> by_cases h3 : a3 = b3 <;> by_cases h4 : a4 = b4 <;> by_cases h5 : a5 = b5 <;>
  go_simp
theorem run_eq_entry (w : World) (a b : En) : (Op.equalIn 10000 40 a.v b.v).run Tryd.prog w = .ok (decide (a = b)) w := by
  obtain ⟨a1, a2, a3⟩ := a
  obtain ⟨b1, b2, b3⟩ := b
  dsimp only [St.v, En.v]
  by_cases h1 : a1 = b1 <;> by_cases h2 : a2 = b2 <;> by_cases h3 : a3 = b3 <;>
  go_simp
end Go.Proofs.YtofheinbbefbcaaDoor
/- The walks of entries and states: which may be. -/
namespace Go.Proofs.YtofheinbbefbcaaDoor
open Go Go.RowKit
set_option maxRecDepth 100000

end Go.Proofs.YtofheinbbefbcaaDoor
/- The walks of entries and states: which may be, by the reference. -/
namespace Go.Proofs.YtofheinbbefbcaaDoor
open Go Go.RowKit
set_option maxRecDepth 100000

end Go.Proofs.YtofheinbbefbcaaDoor
/- append onto a row of the call's own, from a slice that reads as known cells (nil and empty ones let in): as a run, as an operation, in a plain and in a drawn region. -/
namespace Go.Proofs.YtofheinbbefbcaaDoor
open Go Go.RowKit
set_option maxRecDepth 100000

/-- An element type's row of the table. -/
structure Elem (P : Program) (t e : TypeId) (z : Value) (size bytes : Nat) : Prop where
  under : P.underlying t = some (.slice e)
  info : (P.info? e).map (fun i => (i.zero, i.size, i.bytes)) = some (some z, size, bytes)
  cells : z.cells.size = size
  pos : 0 < size

section
variable {P : Program} {w : World} {base : Nat} {t e : TypeId} {z : Value} {size bytes : Nat}

theorem run_append_rd (E : Elem P t e z size bytes) (ty : TypeId) {v : Value} {n : Nat} {xs : List Value} (hown : w.ownsRow base e size v n xs)
    {A : Option Addr} {m : Nat} (c : Nat) {news : List Value} (hlen : news.length = m * size) (hr : Rd w A news) (h1 : ∀ u ∈ news, u.oneCell' = true)
    (h63 : n + m ≤ maxLen) (hbytes : (n + m) * bytes ≤ 140737488355328) (hbase : base ≤ w.heap.size) :
    ∃ v' w', (Builtin.append_ #[t, t] ty #[v, .slice A m c]).run P w = .ok v' w' ∧ w'.ownsRow base e size v' (n + m) (xs ++ news) ∧ w.grownBy w' v.ownBlock ∧
      (v'.ownBlock = v.ownBlock ∨ v'.ownBlock = some w.heap.size) := by
  obtain ⟨i, hi, hz, hsz, hby⟩ := info_parts E.info
  rcases Nat.eq_zero_or_pos m with h0 | h0
  · subst h0
    have hn : news = [] := List.eq_nil_of_length_eq_zero (by simpa using hlen)
    subst hn
    cases A with
    | none =>
      refine ⟨v, w, ?_, by simpa using hown, World.grownBy.refl w _, .inl rfl⟩
      rcases hown.2 with ⟨rfl, rfl⟩ | ⟨g, cap, cur, rfl, _, _, hnc, _⟩
      · simp [Builtin.append_, run_underlying E.under, sizeOf, typeInfo, hi, Builtin.lenOf, Builtin.firstCells]
      · simp [Builtin.append_, run_underlying E.under, sizeOf, typeInfo, hi, Builtin.lenOf, Builtin.firstCells, hnc, storeCells]
    | some ad =>
      obtain ⟨v', w', hrun, h2, h3, _, h5⟩ := run_append_own_at (P := P) w base t ty e i z size bytes E.under hi hz hsz hby E.cells E.pos v n xs hown ad 0 c [] (by simp) (by simp) (by simp) h63 hbytes hbase
      exact ⟨v', w', hrun, h2, h3, h5⟩
  · have hp : 0 < news.length := by rw [hlen]; exact Nat.mul_pos h0 E.pos
    obtain ⟨b, o, rfl, hb, _⟩ := hr 0 news[0] (List.getElem?_eq_getElem hp)
    have hcells : ∀ j u, news[j]? = some u → w.cell? ((⟨b, o, none⟩ : Addr).add j) = some u := by
      intro j u hu
      obtain ⟨b', o', e', _, hc⟩ := hr j u hu
      injection e' with e'
      injection e' with e1 e2
      subst e1; subst e2
      have e0 : (⟨b, o, none⟩ : Addr).add j = ⟨b, o + j, none⟩ := by simp only [Addr.add]; split <;> simp_all
      rw [e0]; exact hc
    obtain ⟨v', w', hrun, h2, h3, _, h5⟩ := run_append_own_at (P := P) w base t ty e i z size bytes E.under hi hz hsz hby E.cells E.pos v n xs hown _ m c news hlen hcells h1 h63 hbytes hbase
    exact ⟨v', w', hrun, h2, h3, h5⟩

theorem wp_append_rd {o : Oper} {a : Act} {K : Act → World → Prop} {Q : Exit → Act → World → Prop} (s x : Operand)
    (ho : o.op = .call { callee := .builtin .append, args := #[s, x], argTypes := #[t, t] }) (E : Elem P t e z size bytes)
    {v : Value} {n : Nat} {xs : List Value} (hs : a.eval s = v) (hown : w.ownsRow base e size v n xs)
    {A : Option Addr} {m c : Nat} {news : List Value} (hx : a.eval x = .slice A m c) (hlen : news.length = m * size) (hr : Rd w A news) (h1 : ∀ u ∈ news, u.oneCell' = true)
    (h63 : n + m ≤ maxLen) (hbytes : (n + m) * bytes ≤ 140737488355328) (hbase : base ≤ w.heap.size)
    (h : ∀ v' w', w'.ownsRow base e size v' (n + m) (xs ++ news) → w.grownBy w' v.ownBlock → (v'.ownBlock = v.ownBlock ∨ v'.ownBlock = some w.heap.size) → K (a.put o.dst v') w') : o.wp P a w K Q := by
  obtain ⟨v', w', hrun, h2, h3, h4⟩ := run_append_rd (w := w) E o.type hown c hlen hr h1 h63 hbytes hbase
  unfold Oper.wp execOp
  simp only [ho, resolve, invoke, builtin, Sem.run_bind, Sem.run_pure, Result.andThen_ok, List.map_toArray, List.map_cons, List.map_nil, hs, hx, hrun]
  exact h v' w' h2 h3 h4

/-- In a plain region. -/
theorem list_append_rd {ops : Array Oper} {rest : List Oper} {o : Oper} {a : Act} {Q : Exit → Act → World → Prop} (hgd : o.guard = none) (s x : Operand)
    (ho : o.op = .call { callee := .builtin .append, args := #[s, x], argTypes := #[t, t] }) (E : Elem P t e z size bytes)
    {v : Value} {n : Nat} {xs : List Value} (hs : a.eval s = v) (hown : w.ownsRow base e size v n xs)
    {A : Option Addr} {m c : Nat} {news : List Value} (hx : a.eval x = .slice A m c) (hlen : news.length = m * size) (hr : Rd w A news) (h1 : ∀ u ∈ news, u.oneCell' = true)
    (h63 : n + m ≤ maxLen) (hbytes : (n + m) * bytes ≤ 140737488355328) (hbase : base ≤ w.heap.size)
    (h : ∀ v' w', w'.ownsRow base e size v' (n + m) (xs ++ news) → w.grownBy w' v.ownBlock → (v'.ownBlock = v.ownBlock ∨ v'.ownBlock = some w.heap.size) → wpList P ops Q rest (a.put o.dst v') w') : wpList P ops Q (o :: rest) a w :=
  wpList_plain hgd fun _ hK => wp_append_rd s x ho E hs hown hx hlen hr h1 h63 hbytes hbase fun v' w' h2 h3 h4 => hK _ _ (h v' w' h2 h3 h4)

/-- In a region that draws its order. -/
theorem step_append_rd {ops : Array Oper} {o : Oper} {a : Act} {K : Act → World → Prop} {Q : Exit → Act → World → Prop} {F : Prop} (hgd : o.guard = none) (s x : Operand)
    (ho : o.op = .call { callee := .builtin .append, args := #[s, x], argTypes := #[t, t] }) (E : Elem P t e z size bytes)
    {v : Value} {n : Nat} {xs : List Value} (hs : a.eval s = v) (hown : w.ownsRow base e size v n xs)
    {A : Option Addr} {m c : Nat} {news : List Value} (hx : a.eval x = .slice A m c) (hlen : news.length = m * size) (hr : Rd w A news) (h1 : ∀ u ∈ news, u.oneCell' = true)
    (h63 : n + m ≤ maxLen) (hbytes : (n + m) * bytes ≤ 140737488355328) (hbase : base ≤ w.heap.size)
    (h : ∀ v' w', w'.ownsRow base e size v' (n + m) (xs ++ news) → w.grownBy w' v.ownBlock → (v'.ownBlock = v.ownBlock ∨ v'.ownBlock = some w.heap.size) → K (a.put o.dst v') w') :
    if Region.wanted o (yielded ops a.tmps) = true then Oper.wp P o a w K Q else F := by
  have hw : Region.wanted o (yielded ops a.tmps) = true := by simp [Region.wanted, hgd]
  rw [if_pos hw]
  exact wp_append_rd s x ho E hs hown hx hlen hr h1 h63 hbytes hbase h
end

theorem bvs_one (l : List UInt8) : ∀ u ∈ bvs l, u.oneCell' = true := by
  intro u hu
  simp only [bvs, List.mem_map] at hu
  obtain ⟨c, _, rfl⟩ := hu
  rfl
theorem bvs_append (l m : List UInt8) : bvs (l ++ m) = bvs l ++ bvs m := by simp [bvs]
theorem ivs_one (l : List Int) : ∀ u ∈ ivs l, u.oneCell' = true := by
  intro u hu
  simp only [ivs, List.mem_map] at hu
  obtain ⟨c, _, rfl⟩ := hu
  rfl
theorem own_base {w : World} {B B' : Nat} {e : TypeId} {size n : Nat} {v : Value} {xs : List Value} (h : w.ownsRow B e size v n xs) (hB : B' ≤ B) : w.ownsRow B' e size v n xs := by
  refine ⟨h.1, ?_⟩
  rcases h.2 with h2 | ⟨g, cap, cur, hv, hg, r⟩
  · exact .inl h2
  · exact .inr ⟨g, cap, cur, hv, Nat.le_trans hB hg, r⟩
/-- What has grown in rows of the call's own. -/
theorem bGrow {B : Nat} {a w w' : World} {v : Value} {e : TypeId} {size n : Nat} {xs : List Value} (h : Below B a w) (hg : w.grownBy w' v.ownBlock) (hB : B ≤ w.heap.size) (ho : w.ownsRow B e size v n xs) : Below B a w' :=
  h.grown hg hB (fun k hk => (ho.lt k hk).1)
end Go.Proofs.YtofheinbbefbcaaDoor
/- A region that draws its order: lights first, all else in the one order that its edges leave; operations that write are seals. -/
namespace Go.Proofs.YtofheinbbefbcaaDoor
open Go Go.RowKit
set_option maxRecDepth 100000
section
variable {P : Program} {ops : Array Oper} {Q : Exit → Act → World → Prop} {md : Region.Mode} {G : Nat → Nat → Prop} {sl : List Nat}

/-- Whatever order is picked; what is no seal leaves all that was there; a seal leaves G. -/
def wpF (P : Program) (md : Region.Mode) (ops : Array Oper) (G : Nat → Nat → Prop) (sl : List Nat) (Q : Exit → Act → World → Prop) : Nat → Array Bool → Act → World → Prop
  | 0, listed, a, w => Region.ready md ops listed = [] ∧ Q .normal a w
  | fuel + 1, listed, a, w => (Region.ready md ops listed = [] → Q .normal a w) ∧
    ∀ i ∈ Region.ready md ops listed, wpOp P ops Q i (fun a' w' => ((i ∈ sl → KeepB (G i) w w') ∧ (i ∉ sl → Below w.heap.size w w')) ∧ wpF P md ops G sl Q fuel (listed.setIfInBounds i true) a' w') a w

theorem wpF.any : ∀ (fuel : Nat) (listed : Array Bool) (a : Act) (w : World), wpF P md ops G sl Q fuel listed a w → wpAny P md ops Q fuel listed a w
  | 0, _, _, _, h => h
  | fuel + 1, _, _, _, h => ⟨h.1, fun i hi => wpOp_mono (fun a' w' h' => wpF.any fuel _ a' w' h'.2) (h.2 i hi)⟩

/-- What the lights of a batch have to stand: R. -/
structure Stands (G : Nat → Nat → Prop) (R : World → World → Prop) (nw : List Nat) : Prop where
  refl : ∀ x, R x x
  below : ∀ x y, Below x.heap.size x y → R x y
  trans : ∀ x y z, R x y → R y z → R x z
  seal_ : ∀ j ∈ nw, ∀ x y, KeepB (G j) x y → R x y
theorem yields_turn {R : World → World → Prop} (ht : ∀ x y z, R x y → R y z → R x z) {oi : Oper} {v : Value} {a : Act} {w w' : World} (h : YieldsIf P ops (fun W => R w W) oi v a) (hb : R w w') : YieldsIf P ops (fun W => R w' W) oi v a :=
  h.imp (fun ⟨h1, h2⟩ => ⟨h1, fun W hW => h2 W (ht _ _ _ hb hW)⟩) id

/-- These wait for i: by an edge, or for one that does. -/
structure Blk (md : Region.Mode) (ops : Array Oper) (listed : Array Bool) (i : Nat) (U : List Nat) : Prop where
  un : ∀ u ∈ U, listed.getD u true = false
  up : ∀ u ∈ U, ∃ ou, ops[u]? = some ou ∧ ∃ e ∈ ou.after, Region.binds md e = true ∧ (e.on = i ∨ e.on ∈ U)
theorem wpF_first {R : World → World → Prop} {nw : List Nat} (hR : Stands G R nw) {i : Nat} {oi : Oper} {v : Value} (hi : ops[i]? = some oi) (hsel : ∀ (j : Nat) (o : Oper) cs b, ops[j]? = some o → o.op ≠ .select cs b)
    (hQ : ∀ c a w, Q (.panic c) (a.put oi.dst v) w → Q (.panic c) a w) (hil : i ∉ sl) :
    ∀ (fuel : Nat) (listed : Array Bool) (a : Act) (w : World),
      (∀ j oj, ops[j]? = some oj → j ≠ i → listed.getD j true = false → (∀ e ∈ oj.after, Region.binds md e = true → e.on ≠ i) → oi.apart ops oj = true) →
      (∃ U, Blk md ops listed i U ∧ ∀ j oj, j ∈ sl → j ∉ nw → ops[j]? = some oj → listed.getD j true = false → j ∈ U) →
      i ∈ Region.ready md ops listed → YieldsIf P ops (fun W => R w W) oi v a →
      wpF P md ops G sl Q fuel (listed.setIfInBounds i true) (a.put oi.dst v) w → wpF P md ops G sl Q (fuel + 1) listed a w := by
  intro fuel
  induction fuel with
  | zero =>
    intro listed a w hfree hse hr hy H
    refine ⟨fun h => (by rw [h] at hr; cases hr), fun j hj => ?_⟩
    by_cases hji : j = i
    · subst hji; exact hy.wpOp hi (hR.refl w) ⟨⟨fun h => (hil h).elim, fun _ => Below.refl _ _⟩, H⟩
    · have := ready_mono hj hji
      rw [H.1] at this
      cases this
  | succ fuel ih =>
    intro listed a w hfree hse hr hy H
    refine ⟨fun h => (by rw [h] at hr; cases hr), fun j hj => ?_⟩
    by_cases hji : j = i
    · subst hji; exact hy.wpOp hi (hR.refl w) ⟨⟨fun h => (hil h).elim, fun _ => Below.refl _ _⟩, H⟩
    · have h1 := H.2 j (ready_mono hj hji)
      obtain ⟨hjun, oj, hoj, hall⟩ := mem_ready.1 hj
      have hnot : ∀ e ∈ oj.after, Region.binds md e = true → e.on ≠ i := fun e he hb heq => by
        have h1 := hall e he hb
        have h0 := (mem_ready.1 hr).1
        rw [heq] at h1
        rcases Nat.lt_or_ge i listed.size with h' | h'
        · simp [h'] at h0 h1; rw [h0] at h1; cases h1
        · simp [Array.getElem?_eq_none h'] at h1
      obtain ⟨U, hU, hse⟩ := hse
      have hjU : j ∉ U := fun hju => by
        obtain ⟨ou, hou, e, he, hb, hor⟩ := hU.up j hju
        rw [hoj] at hou
        injection hou with hou
        subst hou
        rcases hor with heq | hmem
        · exact hnot e he hb heq
        · have h1 := hall e he hb
          have h0 := hU.un _ hmem
          rcases Nat.lt_or_ge e.on listed.size with h' | h'
          · simp [h'] at h0 h1; rw [h0] at h1; cases h1
          · simp [Array.getElem?_eq_none h'] at h1
      have hstep : ∀ w', ((j ∈ sl → KeepB (G j) w w') ∧ (j ∉ sl → Below w.heap.size w w')) → R w w' := fun w' h => by
        by_cases hjs : j ∈ sl
        · by_cases hp : j ∈ nw
          · exact hR.seal_ j hp _ _ (h.1 hjs)
          · exact (hjU (hse j oj hjs hp hoj hjun)).elim
        · exact hR.below _ _ (h.2 hjs)
      have h2 := wpOp_putIf hoj (hfree j oj hoj hji hjun hnot) (fun cs b => hsel i oi cs b hi) (fun cs b => hsel j oj cs b hoj) hQ hy h1
      have hun' : ∀ k, (listed.setIfInBounds j true).getD k true = false → listed.getD k true = false := fun k hun => by
        by_cases hjk : j = k
        · subst hjk; exact hjun
        · rw [getD_set_ne true hjk] at hun; exact hun
      refine wpOp_mono (fun a' w' h3 => ⟨h3.2.1, ih (listed.setIfInBounds j true) a' w' (fun k ok hk hki hun hno => hfree k ok hk hki (hun' k hun) hno) ⟨U, ⟨fun u hu => by rw [getD_set_ne true (fun h => hjU (by rw [h]; exact hu))]; exact hU.un u hu, hU.up⟩, fun k ok hks hkn hk hun => hse k ok hks hkn hk (hun' k hun)⟩ (ready_mono hr (Ne.symm hji))
        (yields_turn hR.trans h3.1 (hstep w' h3.2.1)) ?_⟩) h2
      rw [Array.setIfInBounds_comm _ _ hji]
      exact h3.2.2

/-- What waits for i, one by one in the text's order. -/
def waitsOn (md : Region.Mode) (ops : Array Oper) (listed : Array Bool) (i : Nat) (U : List Nat) (j : Nat) : Bool :=
  !listed.getD j true && match ops[j]? with
    | some oj => oj.after.any fun e => Region.binds md e && (e.on == i || U.contains e.on)
    | none => false
def waiterStep (md : Region.Mode) (ops : Array Oper) (listed : Array Bool) (i : Nat) (U : List Nat) (j : Nat) : List Nat :=
  if waitsOn md ops listed i U j = true then j :: U else U
def waiters (md : Region.Mode) (ops : Array Oper) (listed : Array Bool) (i : Nat) : List Nat := (List.range ops.size).foldl (waiterStep md ops listed i) []
theorem waiterStep_blk {listed : Array Bool} {i : Nat} {U : List Nat} (h : Blk md ops listed i U) (j : Nat) : Blk md ops listed i (waiterStep md ops listed i U j) := by
  unfold waiterStep
  split
  · rename_i hc
    unfold waitsOn at hc
    rw [Bool.and_eq_true] at hc
    obtain ⟨h1, h2⟩ := hc
    cases hj : ops[j]? with
    | none => rw [hj] at h2; cases h2
    | some oj =>
      rw [hj] at h2
      obtain ⟨e, he, hb⟩ := Array.any_eq_true'.1 h2
      simp only [Bool.and_eq_true, Bool.or_eq_true, beq_iff_eq, List.contains_iff_mem] at hb
      refine ⟨fun u hu => ?_, fun u hu => ?_⟩
      · rcases List.mem_cons.1 hu with rfl | hu
        · simpa using h1
        · exact h.un u hu
      · rcases List.mem_cons.1 hu with rfl | hu
        · exact ⟨oj, hj, e, he, hb.1, hb.2.imp id fun h => List.mem_cons_of_mem _ h⟩
        · obtain ⟨ou, h3, e, h4, h5, h6⟩ := h.up u hu
          exact ⟨ou, h3, e, h4, h5, h6.imp id fun h => List.mem_cons_of_mem _ h⟩
  · exact h
theorem foldl_blk {listed : Array Bool} {i : Nat} : ∀ (l U : List Nat), Blk md ops listed i U → Blk md ops listed i (l.foldl (waiterStep md ops listed i) U)
  | [], _, h => h
  | j :: l, U, h => foldl_blk l _ (waiterStep_blk h j)
theorem waiters_blk {listed : Array Bool} {i : Nat} : Blk md ops listed i (waiters md ops listed i) := foldl_blk _ [] ⟨fun _ h => (by cases h), fun _ h => (by cases h)⟩
/-- Does each seal that is to come wait for i? -/
def sealsWait (md : Region.Mode) (ops : Array Oper) (sl nw : List Nat) (listed : Array Bool) (i : Nat) : Bool :=
  sl.all fun j => nw.contains j || listed.getD j true || (waiters md ops listed i).contains j
theorem sealsWait_spec {listed : Array Bool} {i : Nat} {nw : List Nat} (h : sealsWait md ops sl nw listed i = true) : ∃ U, Blk md ops listed i U ∧ ∀ j oj, j ∈ sl → j ∉ nw → ops[j]? = some oj → listed.getD j true = false → j ∈ U := by
  refine ⟨_, waiters_blk, fun j oj hj hn ho hu => ?_⟩
  have := List.all_eq_true.1 h j hj
  have hn' : nw.contains j = false := by simpa using hn
  rw [hu, hn'] at this
  simpa using this
def sealsOk (md : Region.Mode) (ops : Array Oper) (sl nw : List Nat) : Array Bool → List Nat → Bool
  | _, [] => true
  | listed, i :: is => !sl.contains i && sealsWait md ops sl nw listed i && sealsOk md ops sl nw (listed.setIfInBounds i true) is

theorem own_slice {w : World} {B : Nat} {e : TypeId} {size n : Nat} {v : Value} {xs : List Value} (h : w.ownsRow B e size v n xs) : ∃ A c, v = .slice A n c ∧ n ≤ c ∧ c ≤ maxLen := by
  rcases h.2 with ⟨rfl, rfl⟩ | ⟨g, cap, cur, rfl, _, _, h1, h2, _⟩
  · exact ⟨none, 0, rfl, Nat.le_refl _, by simp⟩
  · exact ⟨_, cap, rfl, h1, h2⟩
/-- append inside a fence. -/
theorem listIn_append_rd {F : Fence} {n0 : Nat} {w : World} {base : Nat} {t e : TypeId} {z : Value} {size bytes : Nat} {rest : List Oper} {o : Oper} {a : Act} (hgd : o.guard = none) (s x : Operand)
    (ho : o.op = .call { callee := .builtin .append, args := #[s, x], argTypes := #[t, t] }) (E : Elem P t e z size bytes)
    {v : Value} {n : Nat} {xs : List Value} (hs : a.eval s = v) (hown : w.ownsRow base e size v n xs)
    {A : Option Addr} {m c : Nat} {news : List Value} (hx : a.eval x = .slice A m c) (hlen : news.length = m * size) (hr : Rd w A news) (h1 : ∀ u ∈ news, u.oneCell' = true)
    (h63 : n + m ≤ maxLen) (hbytes : (n + m) * bytes ≤ 140737488355328) (hbase : base ≤ w.heap.size)
    (h : ∀ v' w', w'.ownsRow base e size v' (n + m) (xs ++ news) → w.grownBy w' v.ownBlock → (v'.ownBlock = v.ownBlock ∨ v'.ownBlock = some w.heap.size) → wpListIn F n0 P ops Q rest (a.put o.dst v') w') : wpListIn F n0 P ops Q (o :: rest) a w := by
  refine wpListIn_plain hgd fun K hK' => ?_
  obtain ⟨v', w', hrun, h2, h3, h4⟩ := run_append_rd (w := w) E o.type hown c hlen hr h1 h63 hbytes hbase
  unfold Oper.wpIn
  refine ⟨?_, ?_⟩
  · simp [Oper.about, ho, resolve, Target.leads, Sem.run_pure]
  · rw [Oper.semAt_plain F _ _ (by rw [ho]; intro c hc'; cases hc')]
    simp [execOp, ho, resolve, invoke, builtin, hs, hx, hrun, Result.andThen]
    exact hK' _ _ (h v' w' h2 h3 h4)
end
end Go.Proofs.YtofheinbbefbcaaDoor
/- The walks of entries and states: what comes behind. -/
namespace Go.Proofs.YtofheinbbefbcaaDoor
open Go Go.RowKit
set_option maxRecDepth 100000

/-- The struct in a block of its own. -/
def Box5 (W : World) (b : Nat) (s : St) : Prop :=
  (W.cell? ⟨b, 0, none⟩ = some (.int .i64 s.index) ∧ W.cell? ⟨b, 1, none⟩ = some (.int .i64 s.term) ∧ W.cell? ⟨b, 2, none⟩ = some (.int .i64 s.sum) ∧ W.cell? ⟨b, 3, none⟩ = some (.int .i64 s.level) ∧ W.cell? ⟨b, 4, none⟩ = some (.bool s.final)) ∧
  ∀ o, W.frozen? ⟨b, o, none⟩ = false

theorem cell_set {w : World} {b o : Nat} {u : Value} (h : w.cell? ⟨b, o, none⟩ = some u) (v : Value) (o2 : Nat) : (w.setCell ⟨b, o, none⟩ v).cell? ⟨b, o2, none⟩ = if o2 = o then some v else w.cell? ⟨b, o2, none⟩ := by
  split
  · rename_i e; subst e; exact World.cell?_setCell_same' _ _ _ (by rw [h]; rfl)
  · rename_i e; exact World.cell?_setCell_other (h := by intro h; injection h with _ h; exact e h.symm) ..
theorem Box5.set {w : World} {b : Nat} {s s' : St} (h : Box5 w b s) (o : Nat) (v : Value) (ho : ∃ u, w.cell? ⟨b, o, none⟩ = some u)
    (h0 : (if 0 = o then v else .int .i64 s.index) = .int .i64 s'.index) (h1 : (if 1 = o then v else .int .i64 s.term) = .int .i64 s'.term) (h2 : (if 2 = o then v else .int .i64 s.sum) = .int .i64 s'.sum)
    (h3 : (if 3 = o then v else .int .i64 s.level) = .int .i64 s'.level) (h4 : (if 4 = o then v else .bool s.final) = .bool s'.final) : Box5 (w.setCell ⟨b, o, none⟩ v) b s' := by
  obtain ⟨u, hu⟩ := ho
  obtain ⟨⟨c0, c1, c2, c3, c4⟩, hf⟩ := h
  refine ⟨⟨?_, ?_, ?_, ?_, ?_⟩, fun o => by rw [World.frozen?_setCell]; exact hf o⟩ <;> rw [cell_set hu]
  · rw [← h0, c0]; split <;> rfl
  · rw [← h1, c1]; split <;> rfl
  · rw [← h2, c2]; split <;> rfl
  · rw [← h3, c3]; split <;> rfl
  · rw [← h4, c4]; split <;> rfl
theorem Box5.keep {S : Nat → Prop} {W W' : World} {b : Nat} {s : St} (h : Box5 W b s) (hk : KeepB S W W') (hs : S b) : Box5 W' b s := by
  obtain ⟨⟨c0, c1, c2, c3, c4⟩, hf⟩ := h
  exact ⟨⟨hk.cell (p := ⟨b, 0, none⟩) hs c0, hk.cell (p := ⟨b, 1, none⟩) hs c1, hk.cell (p := ⟨b, 2, none⟩) hs c2, hk.cell (p := ⟨b, 3, none⟩) hs c3, hk.cell (p := ⟨b, 4, none⟩) hs c4⟩,
    fun o => (hk.frozen (p := ⟨b, o, none⟩) (World.block_lt_of_cell? W ⟨b, 0, none⟩ c0) hs).trans (hf o)⟩
theorem Box5.lt {W : World} {b : Nat} {s : St} (h : Box5 W b s) : b < W.heap.size := World.block_lt_of_cell? W _ h.1.1
theorem Box5.new (W : World) (s : St) (t : TypeId) : Box5 (W.alloc (.cells #[.int .i64 s.index, .int .i64 s.term, .int .i64 s.sum, .int .i64 s.level, .bool s.final] t)) W.heap.size s := by
  refine ⟨⟨?_, ?_, ?_, ?_, ?_⟩, fun o => ?_⟩ <;> simp

end Go.Proofs.YtofheinbbefbcaaDoor
/- The walk of the program's Next. -/
namespace Go.Proofs.YtofheinbbefbcaaDoor
open Go Go.RowKit
set_option maxRecDepth 100000

/-- The three numbers of an entry in a block of its own. -/
def Box3 (W : World) (b : Nat) (e : En) : Prop :=
  W.cell? ⟨b, 0, none⟩ = some (.int .i64 e.term) ∧ W.cell? ⟨b, 1, none⟩ = some (.int .i64 e.kind) ∧ W.cell? ⟨b, 2, none⟩ = some (.int .i64 e.value)
theorem Box3.keep {S : Nat → Prop} {W W' : World} {b : Nat} {s : En} (h : Box3 W b s) (hk : KeepB S W W') (hs : S b) : Box3 W' b s :=
  ⟨hk.cell (p := ⟨b, 0, none⟩) hs h.1, hk.cell (p := ⟨b, 1, none⟩) hs h.2.1, hk.cell (p := ⟨b, 2, none⟩) hs h.2.2⟩
theorem Box3.lt {W : World} {b : Nat} {s : En} (h : Box3 W b s) : b < W.heap.size := World.block_lt_of_cell? W _ h.1
theorem keepT {a b : World} (h : Below a.heap.size a b) : KeepB (fun _ => True) a b := KeepB.of_below h fun _ h _ => h

/-- What lies behind the beginning of Next. -/
structure NextW (w0 w : World) (s : St) (e : En) (z : St) : Prop where
  below : Below w0.heap.size w0 w
  s5 : Box5 w w0.heap.size s
  e3 : Box3 w (w0.heap.size + 1) e
  z5 : Box5 w (w0.heap.size + 1 + 1) z
theorem NextW.keep {w0 w w' : World} {s : St} {e : En} {z : St} (h : NextW w0 w s e z) (hb : Below w.heap.size w w') : NextW w0 w' s e z :=
  ⟨bTr h.below hb, h.s5.keep (keepT hb) trivial, h.e3.keep (keepT hb) trivial, h.z5.keep (keepT hb) trivial⟩
theorem NextW.new (w : World) (s : St) (e : En) (z : St) : NextW w (((w.alloc (.cells #[.int .i64 s.index, .int .i64 s.term, .int .i64 s.sum, .int .i64 s.level, .bool s.final] 124)).alloc (.cells #[.int .i64 e.term, .int .i64 e.kind, .int .i64 e.value] 40)).alloc (.cells #[.int .i64 z.index, .int .i64 z.term, .int .i64 z.sum, .int .i64 z.level, .bool z.final] 124)) s e z := by
  refine ⟨(((Below.refl _ _).alloc (Nat.le_refl _) _).alloc (by simp) _).alloc (by simp; omega) _, ?_, ?_, ?_⟩
  · exact ((Box5.new w s _).keep ((KeepB.refl (fun _ => True) _).alloc _) trivial).keep ((KeepB.refl (fun _ => True) _).alloc _) trivial
  · refine ⟨?_, ?_, ?_⟩ <;> (have : w.heap.size + 1 ≠ w.heap.size := by omega) <;> go_simp
  · have := Box5.new ((w.alloc (.cells #[.int .i64 s.index, .int .i64 s.term, .int .i64 s.sum, .int .i64 s.level, .bool s.final] 124)).alloc (.cells #[.int .i64 e.term, .int .i64 e.kind, .int .i64 e.value] 40)) z 124
    simpa using this

end Go.Proofs.YtofheinbbefbcaaDoor
/- Rows of ints. -/
namespace Go.Proofs.YtofheinbbefbcaaDoor
open Go Go.RowKit
set_option maxRecDepth 100000

theorem elemI : Elem Tryd.prog 90 3 (.int .i64 0) 1 8 := ⟨Tryd.underlying90, by kernel_rfl, rfl, by omega⟩
theorem Rd.int {w : World} {A : Option Addr} {l : List Int} (h : Rd w A (ivs l)) {k : Nat} (hk : k < l.length) :
    ∃ b o x, A = some ⟨b, o, none⟩ ∧ b < w.heap.size ∧ w.cell? ⟨b, o + k, none⟩ = some (.int .i64 x) ∧ l[k]? = some x := by
  have hu : (ivs l)[k]? = some (iv l[k]) := by simp [ivs, hk]
  obtain ⟨b, o, e, hb, hc⟩ := h k _ hu
  exact ⟨b, o, l[k], e, hb, hc, by simp [hk]⟩
theorem Rd.to {w w' : World} {A : Option Addr} {xs : List Value} (h : Rd w A xs) (e : w' = w) : Rd w' A xs := e ▸ h
end Go.Proofs.YtofheinbbefbcaaDoor
/- Entries as they lie in memory; states in a block of their own. -/
namespace Go.Proofs.YtofheinbbefbcaaDoor
open Go Go.RowKit Go.Shelf
set_option maxRecDepth 100000

/-- Entries as cells. -/
def ens (l : List En) : List Value := l.flatMap fun e => [.int .i64 e.term, .int .i64 e.kind, .int .i64 e.value]
theorem ens_drop (l : List En) (k : Nat) : ens (l.drop k) = (ens l).drop (3 * k) := by
  induction l generalizing k with
  | nil => simp [ens]
  | cons e l ih =>
    cases k with
    | zero => rfl
    | succ k =>
      rw [List.drop_succ_cons, ih, show 3 * (k + 1) = 3 * k + 3 by omega]
      simp [ens]
theorem Rd.entry {w : World} {A : Option Addr} {l : List En} (h : Rd w A (ens l)) {k : Nat} (hk : k < l.length) :
    ∃ b o e, A = some ⟨b, o, none⟩ ∧ b < w.heap.size ∧ l[k]? = some e ∧ w.cell? ⟨b, o + k * 3, none⟩ = some (.int .i64 e.term) ∧ w.cell? ⟨b, o + k * 3 + 1, none⟩ = some (.int .i64 e.kind) ∧ w.cell? ⟨b, o + k * 3 + 2, none⟩ = some (.int .i64 e.value) := by
  have hd : (ens l).drop (3 * k) = ens (l.drop k) := (ens_drop l k).symm
  rw [List.drop_eq_getElem_cons hk] at hd
  have e0 : (ens l)[k * 3]? = some (.int .i64 l[k].term) := by
    have := List.getElem?_drop (xs := ens l) (i := 3 * k) (j := 0)
    rw [hd] at this
    rw [show k * 3 = 3 * k + 0 by omega, ← this]; rfl
  have e1 : (ens l)[k * 3 + 1]? = some (.int .i64 l[k].kind) := by
    have := List.getElem?_drop (xs := ens l) (i := 3 * k) (j := 1)
    rw [hd] at this
    rw [show k * 3 + 1 = 3 * k + 1 by omega, ← this]; rfl
  have e2 : (ens l)[k * 3 + 2]? = some (.int .i64 l[k].value) := by
    have := List.getElem?_drop (xs := ens l) (i := 3 * k) (j := 2)
    rw [hd] at this
    rw [show k * 3 + 2 = 3 * k + 2 by omega, ← this]; rfl
  obtain ⟨b, o, rfl, hb, c0⟩ := h _ _ e0
  obtain ⟨b1, o1, h1, _, c1⟩ := h _ _ e1
  obtain ⟨b2, o2, h2, _, c2⟩ := h _ _ e2
  simp only [Option.some.injEq, Addr.mk.injEq, and_true] at h1 h2
  obtain ⟨rfl, rfl⟩ := h1
  obtain ⟨rfl, rfl⟩ := h2
  exact ⟨b, o, l[k], rfl, hb, List.getElem?_eq_getElem hk, c0, by rw [Nat.add_assoc]; exact c1, by rw [Nat.add_assoc]; exact c2⟩
theorem Box5.of_heap {w : World} {g : Nat} {s : St} {T : TypeId} (h : w.heap[g]? = some (.cells #[.int .i64 s.index, .int .i64 s.term, .int .i64 s.sum, .int .i64 s.level, .bool s.final] T)) : Box5 w g s := by
  have hc : ∀ j, w.cell? ⟨g, j, none⟩ = (#[.int .i64 s.index, .int .i64 s.term, .int .i64 s.sum, .int .i64 s.level, .bool s.final] : Array Value)[j]? := fun j => by
    rw [cell_of_row _ _ _ _ T (0, 0) h]
  refine ⟨⟨?_, ?_, ?_, ?_, ?_⟩, fun j => ?_⟩
  · rw [hc]; rfl
  · rw [hc]; rfl
  · rw [hc]; rfl
  · rw [hc]; rfl
  · rw [hc]; rfl
  · simp [World.frozen?, h]
theorem Box5.alloc {w : World} {g : Nat} {s : St} (h : Box5 w g s) (o : Obj) : Box5 (w.alloc o) g s := h.keep ((KeepB.refl (fun _ => True) w).alloc o) trivial
end Go.Proofs.YtofheinbbefbcaaDoor
/- Arguments opened: states, entries, rows of these and of numbers. -/
namespace Go.Proofs.YtofheinbbefbcaaDoor
open Go Go.ChangeShapes Go.WideShapes Go.ChangeAt Go.RowKit
set_option maxRecDepth 100000

theorem choose_below {α : Type} [Inhabited α] {n : Nat} {p : Nat → α → Prop} (h : ∀ r, r < n → ∃ x, p r x) : ∃ f : Nat → α, ∀ r, r < n → p r (f r) :=
  ⟨fun r => if hr : r < n then (h r hr).choose else default, fun r hrc => by simp only [hrc, dif_pos]; exact (h r hrc).choose_spec⟩
instance : Inhabited En := ⟨⟨0, 0, 0⟩⟩
instance : Inhabited St := ⟨⟨0, 0, 0, 0, false⟩⟩

section
variable {H : Type} {enc : TypeId × Value → H} {W : World} {base0 : Nat} {sp : Nat → Bool} {held : Bool} {base : Nat}

end
end Go.Proofs.YtofheinbbefbcaaDoor
/- A region that draws its order and in which one new variable may come up whenever: the rest is walked without it. -/
namespace Go.Proofs.YtofheinbbefbcaaDoor
open Go Go.RowKit
set_option maxRecDepth 100000
section
variable {P : Program} {ops : Array Oper} {md : Region.Mode} {Q0 : Exit → Act → World → Prop} {Qs : List (Nat × Nat) → Array Bool → Act → World → Prop}

/-- Stretches of blocks that were made. -/
def pushI (a b : Nat) (L : List (Nat × Nat)) : List (Nat × Nat) := if a < b then (a, b) :: L else L
def outL (L : List (Nat × Nat)) (b : Nat) : Prop := ∀ p ∈ L, b < p.1 ∨ p.2 ≤ b
/-- Whatever order is picked, however the world grows meanwhile; the stretches that are made are told. -/
def wpAnyL (P : Program) (md : Region.Mode) (ops : Array Oper) (Q0 : Exit → Act → World → Prop) (Qs : List (Nat × Nat) → Array Bool → Act → World → Prop) : Nat → Array Bool → List (Nat × Nat) → Act → World → Prop
  | 0, listed, L, a, w => Region.ready md ops listed = [] ∧ ∀ w1, Below w.heap.size w w1 → Qs L listed a w1
  | fuel + 1, listed, L, a, w => ∀ w1, Below w.heap.size w w1 → (Region.ready md ops listed = [] → Qs L listed a w1) ∧
    ∀ i ∈ Region.ready md ops listed, wpOp P ops (NoPanic Q0) i (fun a' w' => KeepB (outL L) w1 w' ∧ wpAnyL P md ops Q0 Qs fuel (listed.setIfInBounds i true) (pushI w1.heap.size w'.heap.size L) a' w') a w1
theorem wpAnyL.mono : ∀ {fuel : Nat} {listed : Array Bool} {L : List (Nat × Nat)} {a : Act} {w w' : World}, wpAnyL P md ops Q0 Qs fuel listed L a w → Below w.heap.size w w' → wpAnyL P md ops Q0 Qs fuel listed L a w'
  | 0, _, _, _, _, _, h, hb => ⟨h.1, fun w1 h1 => h.2 w1 (bTr hb h1)⟩
  | _ + 1, _, _, _, _, _, h, hb => fun w1 h1 => h w1 (bTr hb h1)
theorem own_keep {S : Nat → Prop} {w w' : World} {base : Nat} {e : TypeId} {size : Nat} {v : Value} {n : Nat} {xs : List Value} (h : w.ownsRow base e size v n xs) (hk : KeepB S w w') (hs : ∀ b, v.ownBlock = some b → S b) : w'.ownsRow base e size v n xs := by
  obtain ⟨hl, h2⟩ := h
  refine ⟨hl, ?_⟩
  rcases h2 with h2 | ⟨g, cap, cur, rfl, h3, h4, h5, h6, h7⟩
  · exact .inl h2
  · exact .inr ⟨g, cap, cur, rfl, h3, hk.heap (hs g rfl) h4, h5, h6, h7⟩
theorem own_below {w w' : World} {base : Nat} {e : TypeId} {size : Nat} {v : Value} {n : Nat} {xs : List Value} (h : w.ownsRow base e size v n xs) (hb : Below w.heap.size w w') : w'.ownsRow base e size v n xs :=
  own_keep h (S := fun _ => True) (KeepB.of_below hb (fun _ hk _ => hk)) (fun _ _ => trivial)
variable {q s d n0 : Nat} {ob : Obj}
end
end Go.Proofs.YtofheinbbefbcaaDoor
/- A walk by laws alone. First part: what slots hold, as a list; what an operation that only reads yields. -/
namespace Go.Proofs.YtofheinbbefbcaaDoor
open Go Go.RowKit
set_option maxRecDepth 100000

/-- What a slot holds. -/
def lk : List (Nat × Value) → Nat → Option Value
  | [], _ => none
  | (k, v) :: l, d => bif Nat.beq k d then some v else lk l d
/-- How many slots a frame has; what is deferred. -/
structure FS where
  n : Nat
  d : List Deferred
/-- A frame in which these slots hold this. -/
structure Fr (N : FS) (L : List (Nat × Value)) (a : Act) : Prop where
  size : a.tmps.size = N.n
  defers : a.defers = N.d
  at_ : ∀ d v, lk L d = some v → a.tmps[d]? = some v
/-- What an operand comes to. -/
def ev (L : List (Nat × Value)) : Operand → Option Value
  | .tmp t => lk L t
  | .const v => some v
  | .global g => some (.pointer (some ⟨g, 0, none⟩))
  | .func f => some (.func (.func f) #[] #[])
def evs (L : List (Nat × Value)) : List Operand → Option (List Value)
  | [] => some []
  | x :: xs => match ev L x, evs L xs with
    | some v, some vs => some (v :: vs)
    | _, _ => none

section
variable {N : FS} {L : List (Nat × Value)} {a : Act}
theorem Fr.eval (h : Fr N L a) {x : Operand} {v : Value} (hx : ev L x = some v) : a.eval x = v := by
  cases x with
  | tmp t => simp only [ev] at hx; simp [Act.eval, h.at_ t v hx]
  | const u => simp only [ev, Option.some.injEq] at hx; exact hx
  | global g => simp only [ev, Option.some.injEq] at hx; exact hx
  | func f => simp only [ev, Option.some.injEq] at hx; exact hx
theorem Fr.put (h : Fr N L a) {d : Nat} (hd : Nat.ble (d + 1) N.n = true) (v : Value) : Fr N ((d, v) :: L) (a.put (some d) v) := by
  have hd' : d < N.n := Nat.le_of_ble_eq_true hd
  refine ⟨by simp [Act.put, h.size], h.defers, fun e u hu => ?_⟩
  simp only [lk] at hu
  by_cases hde : d = e
  · subst hde
    simp only [Nat.beq_refl, cond_true, Option.some.injEq] at hu
    subst hu
    have : d < a.tmps.size := by rw [h.size]; exact hd'
    simp [Act.put, this]
  · have : Nat.beq d e = false := by
      cases hb : Nat.beq d e with
      | false => rfl
      | true => exact (hde (Nat.eq_of_beq_eq_true hb)).elim
    rw [this] at hu
    simp only [cond_false] at hu
    simp [Act.put, Array.getElem?_setIfInBounds_ne hde, h.at_ e u hu]
theorem Fr.none (h : Fr N L a) (v : Value) : Fr N L (a.put Option.none v) := h
/-- Does a list of slots say no more than another one? -/
def Sub (L' L : List (Nat × Value)) : Prop := ∀ p ∈ L', lk L p.1 = some p.2
theorem Sub.nil : Sub [] L := fun _ h => by cases h
theorem Sub.cons {L' : List (Nat × Value)} {k : Nat} {v : Value} (h : lk L k = some v) (hs : Sub L' L) : Sub ((k, v) :: L') L := fun p hp => by
  rcases List.mem_cons.1 hp with rfl | hp
  · exact h
  · exact hs p hp
theorem lk_mem {L : List (Nat × Value)} {k : Nat} {v : Value} (h : lk L k = some v) : (k, v) ∈ L := by
  induction L with
  | nil => cases h
  | cons p L ih =>
    obtain ⟨k', v'⟩ := p
    simp only [lk] at h
    cases hb : Nat.beq k' k with
    | true =>
      rw [hb] at h
      simp only [cond_true, Option.some.injEq] at h
      subst h
      rw [Nat.eq_of_beq_eq_true hb]
      simp
    | false => rw [hb] at h; exact List.mem_cons_of_mem _ (ih h)
theorem Fr.sub {L' : List (Nat × Value)} (h : Fr N L a) (hs : Sub L' L) : Fr N L' a := ⟨h.size, h.defers, fun d v hd => h.at_ d v (hs _ (lk_mem hd))⟩
end

/-- What agrees with the slots. -/
def Agr (L : List (Nat × Value)) (ρ : Operand → Value) : Prop := ∀ x u, ev L x = some u → ρ x = u
theorem Fr.agr {N : FS} {L : List (Nat × Value)} {a : Act} (h : Fr N L a) : Agr L a.eval := fun _ _ hx => h.eval hx
theorem Agr.map {L : List (Nat × Value)} {ρ : Operand → Value} (h : Agr L ρ) : ∀ {xs : List Operand} {vs : List Value}, evs L xs = some vs → xs.map ρ = vs
  | [], vs, hx => by simp only [evs, Option.some.injEq] at hx; subst hx; rfl
  | x :: xs, vs, hx => by
    simp only [evs] at hx
    cases h1 : ev L x with
    | none => simp [h1] at hx
    | some v =>
      cases h2 : evs L xs with
      | none => simp [h1, h2] at hx
      | some us =>
        simp only [h1, h2, Option.some.injEq] at hx
        subst hx
        rw [List.map_cons, h x v h1, h.map h2]

/-- The worlds in which what only reads is to yield the same: blocks with S stay. -/
structure RW (R : World → Prop) (S : Nat → Prop) (w : World) : Prop where
  keep : ∀ w1, R w1 → KeepB S w w1
theorem RW.here (w : World) : RW (fun w1 => w1 = w) (fun _ => True) w := ⟨fun w1 h => by subst h; exact KeepB.refl _ _⟩
theorem RW.below (w : World) : RW (fun w1 => Below w.heap.size w w1) (fun _ => True) w := ⟨fun _ h => KeepB.of_below h (fun _ hk _ => hk)⟩
theorem RW.keepB (S : Nat → Prop) (w : World) : RW (fun w1 => KeepB S w w1) S w := ⟨fun _ h => h⟩

/-- An operation yields this, whatever world of R it is. -/
structure Yv (P : Program) (L : List (Nat × Value)) (R : World → Prop) (o : Oper) (v : Value) : Prop where
  run : ∀ w, R w → ∀ ρ : Operand → Value, Agr L ρ → (execOp ρ o).run P w = .ok (.value v) w

/-- Facts of a program's types, as closed tests. -/
def fieldOff (P : Program) (s : TypeId) (f : Nat) : Option Nat :=
  match P.underlying s with
  | some (.struct fs) => match fs[f]? with
    | some fd => match P.info? fd.type with
      | some i => if i.size = 0 then none else some fd.offset
      | none => none
    | none => none
  | _ => none
/-- Types whose variable is one cell. -/
def scalarB (P : Program) (t : TypeId) : Bool :=
  match P.underlying t with
  | some (.struct _) | some (.array _ _) | none => false
  | some _ => (P.info? t).map (·.size) == some 1
/-- Types whose variable is a row of cells: how many. -/
def aggN (P : Program) (t : TypeId) : Option Nat :=
  match P.underlying t with
  | some (.struct _) | some (.array _ _) => (P.info? t).map (·.size)
  | _ => none
def elemOfSlice (P : Program) (t : TypeId) : Option (TypeId × Nat) :=
  match P.underlying t with
  | some (.slice e) => match P.info? e with
    | some i => some (e, i.size)
    | none => none
  | _ => none
def zeroCells (P : Program) (t : TypeId) : Option (List Value) := (P.info? t).bind fun i => i.zero.map fun v => v.cells.toList

/-- The same, kept shut. -/
structure FoC (P : Program) (s f k : Nat) : Prop where
  h : fieldOff P s f = some k
structure ScC (P : Program) (t : Nat) : Prop where
  h : scalarB P t = true
structure AgC (P : Program) (t n : Nat) : Prop where
  h : aggN P t = some n
structure ElC (P : Program) (t e k : Nat) : Prop where
  h : elemOfSlice P t = some (e, k)
structure ZcC (P : Program) (t : Nat) (zs : List Value) : Prop where
  h : zeroCells P t = some zs

section
variable {P : Program} {L : List (Nat × Value)} {R : World → Prop} {d : Option Nat} {ty : TypeId} {pos : String} {af : Array Edge} {g : Option (Nat × Bool)} {w : World}

theorem yv_move {x : Operand} {v : Value} (h : ev L x = some v) : Yv P L R ⟨d, .move x, ty, pos, af, g⟩ v := Yv.mk fun w1 _ ρ hρ => by
  simp only [execOp, hρ x v h]; rfl
theorem yv_assign {x : Operand} {v : Value} (h : ev L x = some v) : Yv P L R ⟨d, .assign x, ty, pos, af, g⟩ v := Yv.mk fun w1 _ ρ hρ => by
  simp only [execOp, hρ x v h]; rfl
theorem yv_pick_t {c x y : Operand} {b : Bool} {v : Value} (hc : ev L c = some (.bool b)) (hb : b = true) (h : ev L x = some v) : Yv P L R ⟨d, .pick c x y, ty, pos, af, g⟩ v := Yv.mk fun w1 _ ρ hρ => by
  subst hb
  simp [execOp, hρ c _ hc, hρ x v h, asBool]
theorem yv_pick_f {c x y : Operand} {b : Bool} {v : Value} (hc : ev L c = some (.bool b)) (hb : b = false) (h : ev L y = some v) : Yv P L R ⟨d, .pick c x y, ty, pos, af, g⟩ v := Yv.mk fun w1 _ ρ hρ => by
  subst hb
  simp [execOp, hρ c _ hc, hρ y v h, asBool]
theorem yv_fieldAddr {x : Operand} {s f k b o : Nat} (hk0 : FoC P s f k) (hx : ev L x = some (.pointer (some ⟨b, o, none⟩))) : Yv P L R ⟨d, .fieldAddr s x f, ty, pos, af, g⟩ (.pointer (some ⟨b, o + k, none⟩)) := Yv.mk fun w1 _ ρ hρ => by
  have hk := hk0.h
  unfold fieldOff at hk
  have hA : (⟨b, o, none⟩ : Addr).add k = ⟨b, o + k, none⟩ := Addr.add_mid b o k
  split at hk
  · rename_i fs hu
    split at hk
    · rename_i fd hf
      split at hk
      · rename_i i hi
        split at hk
        · cases hk
        · rename_i hz
          simp only [Option.some.injEq] at hk
          subst hk
          simp [execOp, hρ x _ hx, Instr.fieldAt, run_underlying hu, hf, Instr.sureAddr, fieldPlace, sizeOf, typeInfo, hi, hz, hA]
      · cases hk
    · cases hk
  · cases hk
/-- A variable of one cell. -/
theorem yv_load {x : Operand} {t : TypeId} {b o : Nat} {v : Value} (hs0 : ScC P t) (hx : ev L x = some (.pointer (some ⟨b, o, none⟩))) {S : Nat → Prop} (hR : RW R S w) (hs' : S b) (hc : w.cell? ⟨b, o, none⟩ = some v) : Yv P L R ⟨d, .load t x, ty, pos, af, g⟩ v := Yv.mk fun w1 hw ρ hρ => by
  have hs := hs0.h
  have hc1 : w1.cell? ⟨b, o, none⟩ = some v := (hR.keep w1 hw).cell (p := ⟨b, o, none⟩) hs' hc
  unfold scalarB at hs
  split at hs
  · cases hs
  · cases hs
  · cases hs
  · rename_i dsc n1 n2 n3 hu
    simp only [execOp, hρ x _ hx, Instr.loadAt, Instr.sureAddr, loadVar, isAgg, load, Sem.run_bind, Sem.run_pure, Result.andThen_ok, run_underlying hu]
    cases dsc <;> simp_all [Sem.run]
/-- A row of cells by value. -/
theorem yv_loadA {x : Operand} {t : TypeId} {b o n : Nat} {vs : List Value} (hn0 : AgC P t n) (hx : ev L x = some (.pointer (some ⟨b, o, none⟩))) {S : Nat → Prop} (hR : RW R S w) (hs' : S b) (hc : w.rangeAt b o vs) (hl : vs.length = n) : Yv P L R ⟨d, .load t x, ty, pos, af, g⟩ (.agg vs.toArray) := Yv.mk fun w1 hw ρ hρ => by
  have hn := hn0.h
  have hc1 : w1.rangeAt b o vs := fun j v hj => (hR.keep w1 hw).cell (p := ⟨b, o + j, none⟩) hs' (hc j v hj)
  subst hl
  unfold aggN at hn
  simp only [execOp, hρ x _ hx]
  split at hn
  · rename_i fs hu
    have := run_loadAt_mid (P := P) w1 b o t vs (.struct fs) hc1 hu rfl hn
    simp [this]
  · rename_i e n hu
    have := run_loadAt_mid (P := P) w1 b o t vs (.array e n) hc1 hu rfl hn
    simp [this]
  · cases hn

theorem i64_in' {n : Int} (h : -9223372036854775808 ≤ n ∧ n ≤ 9223372036854775807) : IntKind.i64.wrap n = n := IntWalk.i64_in n h
theorem yv_add {x y : Operand} {t t' : TypeId} {m n : Int} (hx : ev L x = some (.int .i64 m)) (hy : ev L y = some (.int .i64 n)) (h : -9223372036854775808 ≤ m + n ∧ m + n ≤ 9223372036854775807) : Yv P L R ⟨d, .binOp .add t x y t', ty, pos, af, g⟩ (.int .i64 (m + n)) := Yv.mk fun w1 _ ρ hρ => by
  simp only [execOp, hρ x _ hx, hρ y _ hy, eqGuard]
  simp [binOp, Op.intArith, i64_in' h]
theorem yv_lss {x y : Operand} {t t' : TypeId} {k : IntKind} {m n : Int} (hx : ev L x = some (.int k m)) (hy : ev L y = some (.int k n)) : Yv P L R ⟨d, .binOp .lss t x y t', ty, pos, af, g⟩ (.bool (decide (m < n))) := Yv.mk fun w1 _ ρ hρ => by
  simp only [execOp, hρ x _ hx, hρ y _ hy, eqGuard]
  simp [binOp, Op.intCmp]
theorem yv_lss_t {x y : Operand} {t t' : TypeId} {k : IntKind} {m n : Int} (hx : ev L x = some (.int k m)) (hy : ev L y = some (.int k n)) (h : m < n) : Yv P L R ⟨d, .binOp .lss t x y t', ty, pos, af, g⟩ (.bool true) := by have := yv_lss (P := P) (R := R) (t := t) (t' := t') (ty := ty) (pos := pos) (af := af) (g := g) (d := d) hx hy; rwa [decide_eq_true h] at this
theorem yv_lss_f {x y : Operand} {t t' : TypeId} {k : IntKind} {m n : Int} (hx : ev L x = some (.int k m)) (hy : ev L y = some (.int k n)) (h : n ≤ m) : Yv P L R ⟨d, .binOp .lss t x y t', ty, pos, af, g⟩ (.bool false) := by have := yv_lss (P := P) (R := R) (t := t) (t' := t') (ty := ty) (pos := pos) (af := af) (g := g) (d := d) hx hy; rwa [decide_eq_false (by omega)] at this
theorem yv_leq {x y : Operand} {t t' : TypeId} {k : IntKind} {m n : Int} (hx : ev L x = some (.int k m)) (hy : ev L y = some (.int k n)) : Yv P L R ⟨d, .binOp .leq t x y t', ty, pos, af, g⟩ (.bool (decide (m ≤ n))) := Yv.mk fun w1 _ ρ hρ => by
  simp only [execOp, hρ x _ hx, hρ y _ hy, eqGuard]
  simp [binOp, Op.intCmp]
theorem yv_gtr {x y : Operand} {t t' : TypeId} {k : IntKind} {m n : Int} (hx : ev L x = some (.int k m)) (hy : ev L y = some (.int k n)) : Yv P L R ⟨d, .binOp .gtr t x y t', ty, pos, af, g⟩ (.bool (decide (n < m))) := Yv.mk fun w1 _ ρ hρ => by
  simp only [execOp, hρ x _ hx, hρ y _ hy, eqGuard]
  simp [binOp, Op.intCmp]
theorem yv_geq {x y : Operand} {t t' : TypeId} {k : IntKind} {m n : Int} (hx : ev L x = some (.int k m)) (hy : ev L y = some (.int k n)) : Yv P L R ⟨d, .binOp .geq t x y t', ty, pos, af, g⟩ (.bool (decide (n ≤ m))) := Yv.mk fun w1 _ ρ hρ => by
  simp only [execOp, hρ x _ hx, hρ y _ hy, eqGuard]
  simp [binOp, Op.intCmp]
theorem yv_eql {x y : Operand} {t t' : TypeId} {k : IntKind} {m n : Int} (hx : ev L x = some (.int k m)) (hy : ev L y = some (.int k n)) : Yv P L R ⟨d, .binOp .eql t x y t', ty, pos, af, g⟩ (.bool (decide (m = n))) := Yv.mk fun w1 _ ρ hρ => by
  simp only [execOp, hρ x _ hx, hρ y _ hy, eqGuard]
  have e : (m == n) = decide (m = n) := by by_cases h : m = n <;> simp [h]
  simp [binOp, Op.intCmp, e]
theorem yv_neq {x y : Operand} {t t' : TypeId} {k : IntKind} {m n : Int} (hx : ev L x = some (.int k m)) (hy : ev L y = some (.int k n)) : Yv P L R ⟨d, .binOp .neq t x y t', ty, pos, af, g⟩ (.bool (decide (m ≠ n))) := Yv.mk fun w1 _ ρ hρ => by
  simp only [execOp, hρ x _ hx, hρ y _ hy, eqGuard]
  have e : (m != n) = decide (m ≠ n) := by by_cases h : m = n <;> simp [h]
  simp [binOp, Op.intCmp, e]
theorem yv_not {x : Operand} {t : TypeId} {b : Bool} (hx : ev L x = some (.bool b)) : Yv P L R ⟨d, .unOp .not t x, ty, pos, af, g⟩ (.bool (!b)) := Yv.mk fun w1 _ ρ hρ => by
  simp only [execOp, hρ x _ hx]
  simp [Op.unary]

theorem yv_eqlB {x y : Operand} {t t' : TypeId} {m n : Bool} (ht : P.underlying t = some .bool) (hx : ev L x = some (.bool m)) (hy : ev L y = some (.bool n)) : Yv P L R ⟨d, .binOp .eql t x y t', ty, pos, af, g⟩ (.bool (decide (m = n))) := Yv.mk fun w1 _ ρ hρ => by
  simp only [execOp, hρ x _ hx, hρ y _ hy, eqGuard]
  have e : (m == n) = decide (m = n) := by cases m <;> cases n <;> rfl
  simp [binOp, run_equal_bool w1 t m n ht, e]
theorem yv_neqB {x y : Operand} {t t' : TypeId} {m n : Bool} (ht : P.underlying t = some .bool) (hx : ev L x = some (.bool m)) (hy : ev L y = some (.bool n)) : Yv P L R ⟨d, .binOp .neq t x y t', ty, pos, af, g⟩ (.bool (decide (m ≠ n))) := Yv.mk fun w1 _ ρ hρ => by
  simp only [execOp, hρ x _ hx, hρ y _ hy, eqGuard]
  have e : (!(m == n)) = decide (m ≠ n) := by cases m <;> cases n <;> rfl
  simp [binOp, run_equal_bool w1 t m n ht, e]
theorem yv_len {x : Operand} {t e n c k : Nat} {A : Option Addr} (ht0 : ElC P t e k) (hx : ev L x = some (.slice A n c)) : Yv P L R ⟨d, .call { callee := .builtin .len, args := #[x], argTypes := #[t] }, ty, pos, af, g⟩ (.int .i64 n) := Yv.mk fun w1 _ ρ hρ => by
  have ht := ht0.h
  unfold elemOfSlice at ht
  split at ht
  · rename_i e' hu
    simp [execOp, resolve, invoke, builtin, hρ x _ hx, Builtin.len_, run_underlying hu, goInt]
  · cases ht
theorem yv_extract {x : Operand} {vs : Array Value} {i : Nat} {v : Value} (hx : ev L x = some (.tuple vs)) (hv : vs[i]? = some v) : Yv P L R ⟨d, .extract x i, ty, pos, af, g⟩ v := Yv.mk fun w1 _ ρ hρ => by
  simp [execOp, hρ x _ hx, Instr.extract, hv]
theorem yv_nilCheck {x : Operand} {a : Addr} (hx : ev L x = some (.pointer (some a))) : Yv P L R ⟨d, .nilCheck x, ty, pos, af, g⟩ (.pointer (some a)) := Yv.mk fun w1 _ ρ hρ => by
  simp [execOp, hρ x _ hx]
theorem yv_makeFunc {fn : Fn} {xs ys : List Operand} {us vs : List Value} (hx : evs L xs = some us) (hy : evs L ys = some vs) : Yv P L R ⟨d, .makeFunc fn xs.toArray ys.toArray, ty, pos, af, g⟩ (.func fn us.toArray vs.toArray) := Yv.mk fun w1 _ ρ hρ => by
  simp [execOp, Instr.makeFunc, hρ.map hx, hρ.map hy]
theorem yv_indexAddr {x y : Operand} {t e n c k b o j : Nat} {q : IntKind} {i : Int} (ht0 : ElC P t e k) (hx : ev L x = some (.slice (some ⟨b, o, none⟩) n c)) (hy : ev L y = some (.int q i)) (hi : i = (j : Int)) (hj : j < n) : Yv P L R ⟨d, .indexAddr t x y, ty, pos, af, g⟩ (.pointer (some ⟨b, o + j * k, none⟩)) := Yv.mk fun w1 _ ρ hρ => by
  have ht := ht0.h
  subst hi
  unfold elemOfSlice at ht
  split at ht
  · rename_i e' hu
    split at ht
    · rename_i i hi
      simp only [Option.some.injEq, Prod.mk.injEq] at ht
      obtain ⟨rfl, rfl⟩ := ht
      have h2 : (j : Int) < n := by omega
      simp [execOp, hρ x _ hx, hρ y _ hy, Instr.indexAt, asIntOf, run_underlying hu, h2, hj, sizeOf, typeInfo, hi, Addr.add_mid]
    · cases ht
  · cases ht
theorem sliced_eq (A : Option Addr) (l h m s : Nat) : sliced A l h m s = .slice (if m = l then A else A.map (·.add (l * s))) (h - l) (m - l) := rfl
theorem elem_slice {P : Program} {t e k : Nat} (ht0 : ElC P t e k) : P.underlying t = some (.slice (P.elem t)) ∧ ∀ w, (sizeOf (P.elem t)).run P w = .ok k w := by
  have ht := ht0.h
  unfold elemOfSlice at ht
  split at ht
  · rename_i e' hu
    split at ht
    · rename_i i hi
      simp only [Option.some.injEq, Prod.mk.injEq] at ht
      obtain ⟨rfl, rfl⟩ := ht
      have he : P.elem t = e' := by unfold Program.elem; rw [hu]
      refine ⟨by rw [he]; exact hu, fun w => by rw [he]; simp [sizeOf, typeInfo, hi]⟩
    · cases ht
  · cases ht
/-- s[:h] -/
theorem yv_slice_h {x y : Operand} {t e n c k h : Nat} {q : IntKind} {i : Int} {A : Option Addr} (ht0 : ElC P t e k) (hx : ev L x = some (.slice A n c)) (hy : ev L y = some (.int q i)) (hi : i = (h : Int)) (hh : h ≤ c) : Yv P L R ⟨d, .slice t x none (some y) none, ty, pos, af, g⟩ (.slice A h c) := Yv.mk fun w1 _ ρ hρ => by
  have ht := ht0.h
  subst hi
  obtain ⟨hu, hs⟩ := elem_slice ht0
  have := run_slice_h (P := P) w1 t A n c hu q (h : Int) (by omega) (by omega)
  simp only [execOp, hρ x _ hx, Option.map_some, Option.map_none, hρ y _ hy, run_sliceAt_slice w1 t _ _ _ _ hu, Sem.run_bind, this, hs, Result.andThen_ok, Sem.run_pure]
  have e : sliced A 0 (h : Int).toNat c k = .slice A h c := by
    rw [sliced_eq]
    simp
    intro _
    cases A with
    | none => rfl
    | some a => obtain ⟨b, o, sp⟩ := a; simp [Addr.add]
  rw [e]
/-- s[l:] -/
theorem yv_slice_l {x y : Operand} {t e n c k l : Nat} {q : IntKind} {i : Int} {A : Option Addr} (ht0 : ElC P t e k) (hx : ev L x = some (.slice A n c)) (hy : ev L y = some (.int q i)) (hi : i = (l : Int)) (hl : l ≤ n) : Yv P L R ⟨d, .slice t x (some y) none none, ty, pos, af, g⟩ (.slice (if c = l then A else A.map (·.add (l * k))) (n - l) (c - l)) := Yv.mk fun w1 _ ρ hρ => by
  have ht := ht0.h
  subst hi
  obtain ⟨hu, hs⟩ := elem_slice ht0
  have := run_slice_l (P := P) w1 t A n c hu q (l : Int) (by omega) (by omega)
  simp only [execOp, hρ x _ hx, Option.map_some, Option.map_none, hρ y _ hy, run_sliceAt_slice w1 t _ _ _ _ hu, Sem.run_bind, this, hs, Result.andThen_ok, Sem.run_pure]
  have e : sliced A (l : Int).toNat n c k = .slice (if c = l then A else A.map (·.add (l * k))) (n - l) (c - l) := by rw [sliced_eq]; simp
  rw [e]
theorem yv_min {x y : Operand} {ts : Array TypeId} {k : IntKind} {m n : Int} (hx : ev L x = some (.int k m)) (hy : ev L y = some (.int k n)) : Yv P L R ⟨d, .call { callee := .builtin .min, args := #[x, y], argTypes := ts }, ty, pos, af, g⟩ (.int k (min m n)) := Yv.mk fun w1 _ ρ hρ => by
  simp [execOp, resolve, invoke, builtin, hρ x _ hx, hρ y _ hy, Builtin.min_, Builtin.min2]
  omega
theorem yv_build {t : TypeId} {ps : List (Nat × Operand)} {vs : List Value} {cells : List Value} (hp : evs L (ps.map (·.2)) = some vs) (hb : P.built t ((ps.map (·.1)).zip vs) = some cells.toArray) : Yv P L R ⟨d, .build t ps.toArray, ty, pos, af, g⟩ (.agg cells.toArray) := Yv.mk fun w1 _ ρ hρ => by
  have e : ∀ (ps : List (Nat × Operand)) (vs : List Value), evs L (ps.map (·.2)) = some vs → ps.map (fun (i, x) => (i, ρ x)) = (ps.map (·.1)).zip vs := by
    intro ps
    induction ps with
    | nil => intro vs h; simp
    | cons p ps ih =>
      intro vs h
      obtain ⟨i, x⟩ := p
      simp only [List.map_cons, evs] at h
      cases h1 : ev L x with
      | none => simp [h1] at h
      | some v =>
        cases h2 : evs L (ps.map (·.2)) with
        | none => simp [h1, h2] at h
        | some us =>
          simp only [h1, h2, Option.some.injEq] at h
          subst h
          simp [ih us h2, hρ x v h1]
  have e1 := e ps vs hp
  have hl : (ps.toArray.map fun (i, x) => (i, ρ x)) = ((ps.map (·.1)).zip vs).toArray := by rw [← e1]; simp
  have hr := run_build w1 t ((ps.map (·.1)).zip vs).toArray cells.toArray (by simpa using hb)
  simp only [execOp, hl, Sem.run_bind, hr, Result.andThen_ok, Sem.run_pure]
end
end Go.Proofs.YtofheinbbefbcaaDoor
/- A walk by laws alone. Second part: regions, code; blocks of one's own. -/
namespace Go.Proofs.YtofheinbbefbcaaDoor
open Go Go.RowKit
set_option maxRecDepth 100000

/-- What is known of one block, or of what a slice reads as. -/
inductive Ent where
  | box (b : Nat) (cs : List Value) (T : TypeId)
  | rd (A : Option Addr) (xs : List Value)
  | row (v : Value) (e : TypeId) (size n : Nat) (xs : List Value)
  | obj (b : Nat) (o : Obj)
  | rds (sub : List (Option Addr × List Value))
def Ent.occ : Ent → Nat → Prop
  | .box b _ _, k => k = b
  | .rd A _, k => ∃ a, A = some a ∧ a.block = k
  | .row v _ _ _ _, k => v.ownBlock = some k
  | .obj b _, k => k = b
  | .rds sub, k => ∃ p ∈ sub, ∃ a, p.1 = some a ∧ a.block = k
def Ent.ok (w : World) : Ent → Prop
  | .box b cs T => w.heap[b]? = some (.cells cs.toArray T (0, 0))
  | .rd A xs => Rd w A xs
  | .row v e size n xs => w.ownsRow 0 e size v n xs
  | .obj b o => w.heap[b]? = some o
  | .rds sub => ∀ p ∈ sub, Rd w p.1 p.2
/-- From the world w0, at the world w: what was there and has S has not changed; these lie there, apart from each other. -/
structure St0 (S : Nat → Prop) (w0 w : World) (H : List Ent) : Prop where
  base : KeepB S w0 w
  ok : ∀ e ∈ H, e.ok w
  rng : ∀ e ∈ H, ∀ k, e.occ k → k < w.heap.size ∧ (k < w0.heap.size → ¬ S k)
  dis : H.Pairwise (fun e e' => ∀ k, e.occ k → e'.occ k → False)
/-- All that was there stays. -/
abbrev All (_ : Nat) : Prop := True

theorem Ent.ok_keep {w w' : World} {e : Ent} (h : e.ok w) (hs : w.heap.size ≤ w'.heap.size) (hk : ∀ k, e.occ k → w'.heap[k]? = w.heap[k]?) : e.ok w' := by
  cases e with
  | box b cs T => exact (hk b rfl).trans h
  | obj b o => exact (hk b rfl).trans h
  | rd A xs =>
    intro j u hj
    obtain ⟨b, o, rfl, hb, hc⟩ := h j u hj
    refine ⟨b, o, rfl, Nat.lt_of_lt_of_le hb hs, ?_⟩
    have := hk b ⟨_, rfl, rfl⟩
    simp only [World.cell?, this] at hc ⊢
    exact hc
  | rds sub =>
    intro p hp j u hj
    obtain ⟨b, o, hA, hb, hc⟩ := h p hp j u hj
    refine ⟨b, o, hA, Nat.lt_of_lt_of_le hb hs, ?_⟩
    have := hk b ⟨p, hp, _, hA, rfl⟩
    simp only [World.cell?, this] at hc ⊢
    exact hc
  | row v e size n xs =>
    refine ⟨h.1, ?_⟩
    rcases h.2 with h2 | ⟨g, cap, cur, rfl, h3, h4, h5⟩
    · exact .inl h2
    · exact .inr ⟨g, cap, cur, rfl, h3, (hk g rfl).trans h4, h5⟩

section
variable {S : Nat → Prop} {w0 w w' : World} {H : List Ent}
theorem St0.start (S : Nat → Prop) (w : World) : St0 S w w [] := ⟨KeepB.refl _ _, fun _ h => (by cases h), fun _ h => (by cases h), List.Pairwise.nil⟩
theorem St0.pure (h : St0 All w0 w H) : Below w0.heap.size w0 w := h.base.to_below (Nat.le_refl _) (fun _ _ => trivial)
theorem St0.size (h : St0 S w0 w H) : w0.heap.size ≤ w.heap.size := h.base.size
theorem St0.below (h : St0 S w0 w H) (hb : Below w.heap.size w w') : St0 S w0 w' H :=
  ⟨h.base.below hb, fun e he => Ent.ok_keep (h.ok e he) hb.size (fun k hk => hb.block k (h.rng e he k hk).1), fun e he k hk => ⟨Nat.lt_of_lt_of_le (h.rng e he k hk).1 hb.size, (h.rng e he k hk).2⟩, h.dis⟩
theorem St0.tail {e : Ent} (h : St0 S w0 w (e :: H)) : St0 S w0 w H := ⟨h.base, fun x hx => h.ok x (by simp [hx]), fun x hx => h.rng x (by simp [hx]), h.dis.tail⟩
theorem St0.ne {b b' T T' : Nat} {cs cs' : List Value} (h : St0 S w0 w H) (i j : Nat) (hi : H[i]? = some (.box b cs T)) (hj : H[j]? = some (.box b' cs' T')) (hij : Nat.beq i j = false) : b ≠ b' := by
  have hne : i ≠ j := fun h0 => by subst h0; simp at hij
  have hil := (List.getElem?_eq_some_iff.1 hi)
  have hjl := (List.getElem?_eq_some_iff.1 hj)
  obtain ⟨h1, h2⟩ := hil
  obtain ⟨h3, h4⟩ := hjl
  rintro rfl
  rcases Nat.lt_or_ge i j with hlt | hge
  · have := (List.pairwise_iff_getElem.1 h.dis) i j h1 h3 hlt b
    rw [h2, h4] at this
    exact this rfl rfl
  · have := (List.pairwise_iff_getElem.1 h.dis) j i h3 h1 (by omega) b
    rw [h2, h4] at this
    exact this rfl rfl
/-- What came new. -/
theorem St0.add {e : Ent} (h : St0 S w0 w H) (hb : Below w.heap.size w w') (ho : e.ok w') (hr : ∀ k, e.occ k → w.heap.size ≤ k ∧ k < w'.heap.size) : St0 S w0 w' (e :: H) := by
  have h' := h.below hb
  refine ⟨h'.base, fun x hx => ?_, fun x hx => ?_, List.pairwise_cons.2 ⟨fun x hx k h1 h2 => ?_, h.dis⟩⟩
  · rcases List.mem_cons.1 hx with rfl | hx
    · exact ho
    · exact h'.ok x hx
  · rcases List.mem_cons.1 hx with rfl | hx
    · exact fun k hk => ⟨(hr k hk).2, fun hlt => (by have := (hr k hk).1; have := h.size; omega)⟩
    · exact h'.rng x hx
  · have := (h.rng x hx k h2).1
    have := (hr k h1).1
    omega
theorem St0.box (h : St0 S w0 w H) (cs : List Value) (T : TypeId) : St0 S w0 (w.alloc (.cells cs.toArray T (0, 0))) (.box w.heap.size cs T :: H) :=
  h.add ((Below.refl _ _).alloc (Nat.le_refl _) _) (heap_alloc_new w _) (fun k hk => by subst hk; simp)
/-- One entry has become another one, in a step that left all others' blocks. -/
theorem St0.change (h : St0 S w0 w H) (i : Nat) {e e' : Ent} (hi : H[i]? = some e) (hs : w.heap.size ≤ w'.heap.size) (ht : w'.os = w.os ∧ w'.tape = w.tape ∧ w'.output = w.output) (hk : ∀ k, ¬ e.occ k → k < w.heap.size → w'.heap[k]? = w.heap[k]?) (ho : e'.ok w')
    (hr : ∀ k, e'.occ k → e.occ k ∨ (w.heap.size ≤ k ∧ k < w'.heap.size)) : St0 S w0 w' (H.set i e') := by
  have hil : i < H.length := (List.getElem?_eq_some_iff.1 hi).1
  have hei : H[i] = e := (List.getElem?_eq_some_iff.1 hi).2
  have hdis : ∀ j x, H[j]? = some x → j ≠ i → ∀ k, x.occ k → e.occ k → False := fun j x hj hne k h1 h2 => by
    have hjl : j < H.length := (List.getElem?_eq_some_iff.1 hj).1
    have hxj : H[j] = x := (List.getElem?_eq_some_iff.1 hj).2
    rcases Nat.lt_or_ge j i with hlt | hge
    · have := (List.pairwise_iff_getElem.1 h.dis) j i hjl hil hlt k
      rw [hxj, hei] at this
      exact this h1 h2
    · have := (List.pairwise_iff_getElem.1 h.dis) i j hil hjl (by omega) k
      rw [hxj, hei] at this
      exact this h2 h1
  have he := h.rng e (List.mem_of_getElem? hi)
  refine ⟨⟨ht.1.trans h.base.os, ht.2.1.trans h.base.tape, ht.2.2.trans h.base.output, Nat.le_trans h.size hs, fun k hk0 hSk => ?_⟩, fun x hx => ?_, fun x hx k hxk => ?_, ?_⟩
  · rw [hk k (fun h0 => (he k h0).2 hk0 hSk) (Nat.lt_of_lt_of_le hk0 h.size)]
    exact h.base.block k hk0 hSk
  · obtain ⟨j, hj, rfl⟩ := List.mem_iff_getElem.1 hx
    rw [List.length_set] at hj
    rw [List.getElem_set]
    split
    · exact ho
    · rename_i hne
      have hj' : H[j]? = some H[j] := List.getElem?_eq_getElem hj
      exact Ent.ok_keep (h.ok _ (List.getElem_mem hj)) hs (fun k hk1 => hk k (fun h0 => hdis j _ hj' (by omega) k hk1 h0) (h.rng _ (List.getElem_mem hj) k hk1).1)
  · obtain ⟨j, hj, rfl⟩ := List.mem_iff_getElem.1 hx
    rw [List.length_set] at hj
    rw [List.getElem_set] at hxk
    split at hxk
    · rcases hr k hxk with h1 | h1
      · exact ⟨Nat.lt_of_lt_of_le (he k h1).1 hs, (he k h1).2⟩
      · exact ⟨h1.2, fun hlt => (by have := h.size; omega)⟩
    · have := h.rng _ (List.getElem_mem hj) k hxk
      exact ⟨Nat.lt_of_lt_of_le this.1 hs, this.2⟩
  · rw [List.pairwise_iff_getElem]
    intro a b ha hb hab k h1 h2
    rw [List.length_set] at ha hb
    rw [List.getElem_set] at h1 h2
    have haE : H[a]? = some H[a] := List.getElem?_eq_getElem ha
    have hbE : H[b]? = some H[b] := List.getElem?_eq_getElem hb
    split at h1
    · split at h2
      · omega
      · rcases hr k h1 with h3 | h3
        · exact hdis b _ hbE (by omega) k h2 h3
        · have := (h.rng _ (List.getElem_mem hb) k h2).1; omega
    · split at h2
      · rcases hr k h2 with h3 | h3
        · exact hdis a _ haE (by omega) k h1 h3
        · have := (h.rng _ (List.getElem_mem ha) k h1).1; omega
      · exact (List.pairwise_iff_getElem.1 h.dis) a b ha hb hab k h1 h2
end

theorem box_cell {w : World} {b o : Nat} {cs : List Value} {T : TypeId} (h : Ent.ok w (.box b cs T)) : w.cell? ⟨b, o, none⟩ = cs[o]? := by
  rw [cell_of_row w b o cs.toArray T (0, 0) h]; simp
theorem box_range {w : World} {b o n : Nat} {cs : List Value} {T : TypeId} (h : Ent.ok w (.box b cs T)) : w.rangeAt b o ((cs.drop o).take n) := fun j v hj => by
  rw [box_cell h]
  rw [List.getElem?_take] at hj
  split at hj
  · rw [List.getElem?_drop] at hj; exact hj
  · cases hj

/-- Code of a frame of a function that there is, in a round (ro) or not. -/
def wpo (P : Program) (ro : Option Nat) (c : Code) (Q : Exit → Act → World → Prop) (a : Act) (w : World) : Prop :=
  ∀ (b : Frame) (k : List Item) (cs : List Frame), b.roundOf = ro → (∃ fn, P.funcs[b.fn]? = some fn) →
    ∃ e a' w', Q e a' w' ∧ ArrivesIn (Machine.fenced P Fence.wide) P (lone (b.atR a (.code c :: k)) cs w) b k cs e a' w'
def FR (ro : Option Nat) : Fence := { fn := fun _ => True, depth := none, alive := false, round := ro }
section
variable {P : Program} {ro : Option Nat} {Q : Exit → Act → World → Prop} {a : Act} {w : World}
theorem wpo_of_in {n : Nat} {c : Code} (h : c.wpIn (FR ro) n P Q a w) : wpo P ro c Q a w := fun b k cs hro _ => h b k cs hro trivial (fun _ hd => by cases hd)
theorem wpo_of_wp {c : Code} (h : c.wp P Q a w) : wpo P none c Q a w := wpo_of_in (n := 9) (wpIn_wide.2 h)
theorem wpo_mono {c : Code} {Q' : Exit → Act → World → Prop} (h : wpo P ro c Q a w) (hq : ∀ e a w, Q e a w → Q' e a w) : wpo P ro c Q' a w :=
  fun b k cs hro hb => let ⟨e, a', w', q, r⟩ := h b k cs hro hb; ⟨e, a', w', hq _ _ _ q, r⟩
theorem wpo_seq {x y : Code} (h : wpo P ro x (Exit.then (wpo P ro y Q) Q) a w) : wpo P ro (.seq x y) Q a w := by
  intro b k cs hro hb
  have h0 := fenced_wide P (lone (b.atR a (.code (.seq x y) :: k)) cs w)
  obtain ⟨e, a1, w1, hq, harr⟩ := h b (.code y :: k) cs hro hb
  cases e with
  | normal =>
    obtain ⟨e2, a2, w2, hq2, harr2⟩ := hq b k cs hro hb
    exact ⟨e2, a2, w2, hq2, .of_steps (.head h0 stepR_seq harr) harr2⟩
  | exit id => exact ⟨_, a1, w1, hq, .of_steps (.one h0 stepR_seq) (.pass (x := .code y) rfl (fun _ _ => .inl (by simp)) harr)⟩
  | goto l => exact ⟨_, a1, w1, hq, .of_steps (.one h0 stepR_seq) (.pass (x := .code y) rfl (fun _ _ => .inl (by simp)) harr)⟩
  | ret => exact ⟨_, a1, w1, hq, .of_steps (.one h0 stepR_seq) (.pass (x := .code y) rfl (fun _ _ => .inl (by simp)) harr)⟩
  | panic ch => exact ⟨_, a1, w1, hq, .of_steps (.one h0 stepR_seq) (.pass (x := .code y) rfl (fun _ _ => .inl (by simp)) harr)⟩
  | outgrown => exact ⟨_, a1, w1, hq, .of_steps (.one h0 stepR_seq) (.pass (x := .code y) rfl (fun _ _ => .inl (by simp)) harr)⟩
theorem wpo_cond {c : Operand} {x y : Code} {t : Bool} (hc : a.eval c = .bool t) (h : wpo P ro (if t then x else y) Q a w) : wpo P ro (.cond c x y) Q a w :=
  fun b k cs hro hb => let ⟨e, a', w', q, r⟩ := h b k cs hro hb; ⟨e, a', w', q, .of_steps (.one (fenced_wide P _) (stepR_cond hc)) r⟩
theorem wpo_block {id : Nat} {c : Code} (h : wpo P ro c (Exit.inBlock id Q) a w) : wpo P ro (.block id c) Q a w := by
  intro b k cs hro hb
  have h0 := fenced_wide P (lone (b.atR a (.code (.block id c) :: k)) cs w)
  obtain ⟨e, a1, w1, hq, harr⟩ := h b (.inBlock id :: k) cs hro hb
  cases e with
  | normal => exact ⟨.normal, a1, w1, hq, .head h0 stepR_block (StepsIn.trans harr (.one (fenced_wide P _) stepR_inBlock))⟩
  | exit id' =>
    by_cases hid : id' = id
    · simp only [Exit.inBlock, hid, if_true] at hq
      exact ⟨.normal, a1, w1, hq, .head h0 stepR_block (harr.1 k (by simp [exitTo, hid]))⟩
    · simp only [Exit.inBlock, hid, if_false] at hq
      have this : (id == id') = false := by simp; exact fun h => hid h.symm
      have hx : exitTo id' (.inBlock id :: k) = exitTo id' k := by simp [exitTo, this]
      exact ⟨.exit id', a1, w1, hq, fun k' hk => .head h0 stepR_block (harr.1 k' (by rw [hx]; exact hk)),
        fun hr' hk => let ⟨k1, h1, h2⟩ := harr.2 hr' (by rw [hx]; exact hk); ⟨k1, h1, .head h0 stepR_block h2⟩⟩
  | goto l =>
    have hx : gotoIn l (.inBlock id :: k) = gotoIn l k := by simp [gotoIn]
    exact ⟨_, a1, w1, hq, fun k' hk => .head h0 stepR_block (harr.1 k' (by rw [hx]; exact hk)),
      fun hr' hk => let ⟨k1, h1, h2⟩ := harr.2 hr' (by rw [hx]; exact hk); ⟨k1, h1, .head h0 stepR_block h2⟩⟩
  | ret => exact ⟨_, a1, w1, hq, .of_steps (.one h0 stepR_block) harr⟩
  | panic ch => exact ⟨_, a1, w1, hq, .of_steps (.one h0 stepR_block) harr⟩
  | outgrown => exact ⟨_, a1, w1, hq, .of_steps (.one h0 stepR_block) harr⟩
theorem wpo_loop {c : Code} (I : Act → World → Prop) (μ : Act → World → Nat) (h0 : I a w)
    (round : ∀ a w, I a w → wpo P ro c (Exit.then (fun a' w' => I a' w' ∧ μ a' w' < μ a w) Q) a w) : wpo P ro (.loop c) Q a w := by
  intro b k cs hro hb
  have key : ∀ j a w, μ a w = j → I a w →
      ∃ e a' w', Q e a' w' ∧ ArrivesIn (Machine.fenced P Fence.wide) P (lone (b.atR a (.code c :: .inLoop c :: k)) cs w) b k cs e a' w' := by
    intro j
    induction j using Nat.strongRecOn with
    | _ j ih =>
      intro a w hn hI
      obtain ⟨e, a1, w1, hq, harr⟩ := round a w hI b (.inLoop c :: k) cs hro hb
      cases e with
      | normal =>
        obtain ⟨hI1, hlt⟩ := hq
        obtain ⟨e2, a2, w2, hq2, harr2⟩ := ih (μ a1 w1) (hn ▸ hlt) a1 w1 rfl hI1
        exact ⟨e2, a2, w2, hq2, .of_steps (StepsIn.trans harr (.one (fenced_wide P _) stepR_inLoop)) harr2⟩
      | exit id => exact ⟨_, a1, w1, hq, .pass (x := .inLoop c) rfl (fun _ _ => .inl (by simp)) harr⟩
      | goto l => exact ⟨_, a1, w1, hq, .pass (x := .inLoop c) rfl (fun _ _ => .inl (by simp)) harr⟩
      | ret => exact ⟨_, a1, w1, hq, .pass (x := .inLoop c) rfl (fun _ _ => .inl (by simp)) harr⟩
      | panic ch => exact ⟨_, a1, w1, hq, .pass (x := .inLoop c) rfl (fun _ _ => .inl (by simp)) harr⟩
      | outgrown => exact ⟨_, a1, w1, hq, .pass (x := .inLoop c) rfl (fun _ _ => .inl (by simp)) harr⟩
  obtain ⟨e, a', w', hq, harr⟩ := key _ a w rfl h0
  exact ⟨e, a', w', hq, .of_steps (.one (fenced_wide P _) stepR_loop) harr⟩
/-- A function's contract from its body. -/
theorem calls_of_wpo {f : FuncId} {fn : Func} {c : Code} {args : Array Value} {R : Ending → World → Prop} (hf : P.funcs[f]? = some fn) (hb : fn.body = some c)
    (h : wpo P none c (bodyPostM Fence.wide 9 P fn R) { tmps := args ++ Array.replicate (fn.ntmps - args.size) undef, defers := [] } w) : Calls P f args w R := by
  refine (callsIn_wide (n := 9)).1 ⟨trivial, fun cs hr => ?_⟩
  let b : Frame := { (default : Frame) with fn := f, kind := .normal, roundOf := none }
  have henter : Frame.enter P f args .normal = b.atR { tmps := args ++ Array.replicate (fn.ntmps - args.size) undef, defers := [] } [.code c] := by
    simp [Frame.enter, Frame.atR, hf, hb, b]
  obtain ⟨e, a', w', hq, harr⟩ := h b [] cs rfl ⟨fn, hf⟩
  rw [← henter] at harr
  cases e with
  | normal =>
    obtain ⟨e', w'', fr', hR, hs, hfn, hl⟩ := leaves_stepsInM a'.defers .returning w' { b.atR a' [] with mode := .returning } cs rfl rfl rfl hf rfl trivial hr hq
    exact ⟨e', w'', fr', hR, ComesIn.of_steps (StepsIn.trans harr (.one (fenced_calm (F := Fence.wide) (fr := b.atR a' []) trivial hr rfl) (stepR_end rfl))) hs, hfn, hl⟩
  | ret =>
    obtain ⟨todo, hs0⟩ := harr.1 rfl
    obtain ⟨e', w'', fr', hR, hs, hfn, hl⟩ := leaves_stepsInM a'.defers .returning w' { b.atR a' todo with mode := .returning } cs rfl rfl rfl hf rfl trivial hr hq
    exact ⟨e', w'', fr', hR, ComesIn.of_steps hs0 hs, hfn, hl⟩
  | panic chain =>
    obtain ⟨todo, hs0⟩ := harr
    obtain ⟨e', w'', fr', hR, hs, hfn, hl⟩ := leaves_stepsInM a'.defers (.panicking chain) w' { b.atR a' todo with mode := .panicking chain } cs rfl rfl rfl hf rfl trivial hr hq
    exact ⟨e', w'', fr', hR, ComesIn.of_steps hs0 hs, hfn, hl⟩
  | exit id => exact hq.elim
  | goto l => exact hq.elim
  | outgrown => exact ⟨.outgrown, w', b, hq, harr.resolve_left (by simp [b]), rfl, trivial⟩
end

/-- What is asked of a body: marks are taken, no function is deferred. -/
def Takes (P : Program) : List Deferred → World → World → Prop
  | [], w, w' => w' = w
  | d :: ds, w, w' => ∃ r w1, d.target = .collected r ∧ (Instr.takeDeferred r).run P w = .ok [] w1 ∧ Takes P ds w1 w'
def bodyO (P : Program) (fn : Func) (R : Ending → World → Prop) : Exit → Act → World → Prop
  | .normal, a, w | .ret, a, w => ∃ w', Takes P a.defers w w' ∧ ∃ v, (results fn a.tmps).run P w' = .ok v w' ∧ R (.returned v) w'
  | .panic c, a, w => ∃ w', Takes P a.defers w w' ∧ R (.panicked c) w'
  | .outgrown, _, w => R .outgrown w
  | _, _, _ => False
theorem leaves_of_takes {P : Program} {fn : Func} {tmps : Array Value} {R : Ending → World → Prop} {u : FrameMode} (hu : u ≠ .run) : ∀ (ds : List Deferred) (w w' : World), Takes P ds w w' → LeavesIn Fence.wide 9 P fn tmps R [] u w' → LeavesInM Fence.wide 9 P fn tmps R ds u w
  | [], w, w', h, k => by cases h; exact k
  | d :: ds, w, w', ⟨r, w1, h1, h2, h3⟩, k => ⟨hu, .inl ⟨r, w1, h1, h2, leaves_of_takes hu ds w1 w' h3 k⟩⟩
theorem bodyO_M {P : Program} {fn : Func} {R : Ending → World → Prop} {e : Exit} {a : Act} {w : World} (h : bodyO P fn R e a w) : bodyPostM Fence.wide 9 P fn R e a w := by
  cases e with
  | normal => obtain ⟨w', h1, h2⟩ := h; exact leaves_of_takes (by simp) _ _ _ h1 h2
  | ret => obtain ⟨w', h1, h2⟩ := h; exact leaves_of_takes (by simp) _ _ _ h1 h2
  | panic c => obtain ⟨w', h1, h2⟩ := h; exact leaves_of_takes (by simp) _ _ _ h1 h2
  | outgrown => exact h
  | exit id => exact h.elim
  | goto l => exact h.elim

/-- There is no way out for want of memory. -/
structure NL (Q : Exit → Act → World → Prop) : Prop where
  no : ∀ a w, ¬ Q .outgrown a w
theorem NL.then {K : Act → World → Prop} {Q : Exit → Act → World → Prop} (h : NL Q) : NL (Exit.then K Q) := ⟨h.no⟩
theorem NL.inBlock {id : Nat} {Q : Exit → Act → World → Prop} (h : NL Q) : NL (Exit.inBlock id Q) := ⟨h.no⟩
def noDefer (o : Oper) : Bool := match o.op with | .defer _ => false | _ => true
theorem noDefer_spec {o : Oper} (h : noDefer o = true) : ∀ c, o.op ≠ .defer c := fun c hc => by simp [noDefer, hc] at h
section
variable {P : Program} {ro : Option Nat} {Q : Exit → Act → World → Prop} {n : Nat}
theorem op_in {o : Oper} (hd : noDefer o = true) {a : Act} {w : World} {K : Act → World → Prop} (h : o.wp P a w K Q) : o.wpIn (FR ro) n P a w K Q := by
  refine ⟨fun _ _ => trivial, ?_⟩
  rw [Oper.semAt_plain (FR ro) _ _ (noDefer_spec hd)]
  unfold Oper.wp at h
  generalize (execOp a.eval o).run P w = r at *
  cases r with
  | ok x w' =>
    cases x <;> simp only [Oper.upon] at h <;> try exact h.elim
    case value v => exact h
    case skip => exact h
    case defer d => exact h
    case enter f args =>
      refine ⟨fun h => (by cases h), ?_⟩
      exact (callsIn_wide (n := n - 1)).2 h
    case row row args =>
      refine ⟨fun h => (by cases h), fun c cs _ => ?_⟩
      obtain ⟨v, w'', h1, h2⟩ := h c cs
      exact ⟨v, w'', h1, stepsIn_wide.2 h2⟩
  | halt x w' => cases x <;> simp only [Oper.upon] at h <;> first | exact h | exact h.elim
theorem list_in {ops : Array Oper} (hQ : NL Q) : ∀ (l : List Oper), l.all noDefer = true → ∀ (a : Act) (w : World), wpList P ops Q l a w → wpListIn (FR ro) n P ops Q l a w
  | [], _, a, w, h => h
  | o :: l, hd, a, w, h => by
    simp only [List.all_cons, Bool.and_eq_true] at hd
    unfold wpList at h
    unfold wpListIn
    split
    · rename_i hw
      rw [if_pos hw] at h
      rcases h with h | ⟨_, a0, w0, h⟩
      · have := op_in (ro := ro) (n := n) hd.1 h
        exact Oper.wpIn_mono (fun a w h => list_in hQ l hd.2 a w h) this
      · exact (hQ.no _ _ h).elim
    · rename_i hw
      rw [if_neg hw] at h
      exact ⟨fun _ _ => trivial, list_in hQ l hd.2 _ _ h⟩
end

section
variable {P : Program} {ops : Array Oper} {Q : Exit → Act → World → Prop} {rest : List Oper} {N : FS} {L : List (Nat × Value)} {w : World} {ro : Option Nat}

/-- The operations from here on, in the order of the text, from slots that hold this. -/
structure wpS (P : Program) (ops : Array Oper) (Q : Exit → Act → World → Prop) (l : List Oper) (N : FS) (L : List (Nat × Value)) (w : World) : Prop where
  go : ∀ a, Fr N L a → wpList P ops Q l a w
structure wpC (P : Program) (ro : Option Nat) (c : Code) (Q : Exit → Act → World → Prop) (N : FS) (L : List (Nat × Value)) (w : World) : Prop where
  go : ∀ a, Fr N L a → wpo P ro c Q a w
/-- What is asked at an exit. -/
structure QH (Q : Exit → Act → World → Prop) (e : Exit) (N : FS) (L : List (Nat × Value)) (w : World) : Prop where
  go : ∀ a, Fr N L a → Q e a w

/-- Is the operation to be done? -/
def wantB (ops : Array Oper) (L : List (Nat × Value)) : Option (Nat × Bool) → Option Bool
  | none => some true
  | some (j, want) => match (ops[j]?).bind (·.dst) with
    | some t => match lk L t with
      | some (.bool b) => some (b == want)
      | some (.tuple _) => some false
      | _ => none
    | none => none
theorem wanted_of {a : Act} (hF : Fr N L a) {o : Oper} {b : Bool} (h : wantB ops L o.guard = some b) : Region.wanted o (yielded ops a.tmps) = b := by
  unfold Region.wanted
  cases hg : o.guard with
  | none => rw [hg] at h; simpa [wantB] using h
  | some p =>
    obtain ⟨j, want⟩ := p
    rw [hg] at h
    simp only [wantB] at h
    split at h
    · rename_i t ht
      split at h
      · rename_i c hc
        simp only [Option.some.injEq] at h
        subst h
        simp only [yielded, ht, Option.bind_some, hF.at_ t _ hc]
        cases c <;> cases want <;> rfl
      · rename_i c hc
        simp only [Option.some.injEq] at h
        subst h
        simp only [yielded, ht, Option.bind_some, hF.at_ t _ hc]
        cases want <;> rfl
      · cases h
    · cases h

theorem wpS_put {o : Oper} {d : Nat} {v : Value} (hg : wantB ops L o.guard = some true) (hd : o.dst = some d) (hN : Nat.ble (d + 1) N.n = true) (hv : Yv P L (fun w1 => w1 = w) o v) (k : wpS P ops Q rest N ((d, v) :: L) w) : wpS P ops Q (o :: rest) N L w := .mk fun a hF => by
  unfold wpList
  rw [if_pos (wanted_of hF hg)]
  refine .inl ?_
  unfold Oper.wp
  rw [hv.run w rfl a.eval hF.agr]
  simp only [Oper.upon, hd]
  exact k.go _ (hF.put hN v)
theorem wpS_skip {o : Oper} {d : Nat} (hg : wantB ops L o.guard = some false) (hd : o.dst = some d) (hN : Nat.ble (d + 1) N.n = true) (k : wpS P ops Q rest N ((d, undef) :: L) w) : wpS P ops Q (o :: rest) N L w := .mk fun a hF => by
  unfold wpList
  rw [if_neg (by rw [wanted_of hF hg]; simp), hd]
  exact k.go _ (hF.put hN _)
theorem wpS_skip0 {o : Oper} (hg : wantB ops L o.guard = some false) (hd : o.dst = none) (k : wpS P ops Q rest N L w) : wpS P ops Q (o :: rest) N L w := .mk fun a hF => by
  unfold wpList
  rw [if_neg (by rw [wanted_of hF hg]; simp), hd]
  exact k.go _ hF
/-- An operation that runs to a value and a world. -/
theorem wpS_run {o : Oper} {d : Nat} {v : Value} {w' : World} (hg : wantB ops L o.guard = some true) (hd : o.dst = some d) (hN : Nat.ble (d + 1) N.n = true) (hr : ∀ ρ, Agr L ρ → (execOp ρ o).run P w = .ok (.value v) w') (k : wpS P ops Q rest N ((d, v) :: L) w') : wpS P ops Q (o :: rest) N L w := .mk fun a hF => by
  unfold wpList
  rw [if_pos (wanted_of hF hg)]
  refine .inl ?_
  unfold Oper.wp
  rw [hr a.eval hF.agr]
  simp only [Oper.upon, hd]
  exact k.go _ (hF.put hN v)
theorem wpS_run0 {o : Oper} {w' : World} (hg : wantB ops L o.guard = some true) (hd : o.dst = none) (hr : ∀ ρ, Agr L ρ → (execOp ρ o).run P w = .ok .skip w') (k : wpS P ops Q rest N L w') : wpS P ops Q (o :: rest) N L w := .mk fun a hF => by
  unfold wpList
  rw [if_pos (wanted_of hF hg)]
  refine .inl ?_
  unfold Oper.wp
  rw [hr a.eval hF.agr]
  simp only [Oper.upon, hd]
  exact k.go _ hF
theorem wpS_nil (k : QH Q .normal N L w) : wpS P ops Q [] N L w := .mk fun a hF => k.go a hF
/-- Can this function be entered? -/
def enterB (P : Program) (f : FuncId) : Bool := match P.funcs[f]? with
  | some fn => fn.name != "runtime.NumGoroutine" && fn.body.isSome
  | none => false
theorem callFunc_enter {f : FuncId} (h : enterB P f = true) (args : Array Value) : (callFunc f args).run P w = .ok (.enter f args) w := by
  unfold enterB at h
  split at h
  · rename_i fn hf
    simp only [Bool.and_eq_true, bne_iff_ne, ne_eq] at h
    obtain ⟨h1, h2⟩ := h
    obtain ⟨c, hc⟩ := Option.isSome_iff_exists.1 h2
    simp [callFunc, run_program, hf, h1, hc]
  · cases h
/-- A call of a function that is known. -/
theorem wpS_call {dst : Option Nat} {ty : TypeId} {pos : String} {af : Array Edge} {g : Option (Nat × Bool)} {x : Operand} {f : FuncId} {cap : Array Value} {xs : List Operand} {ts : Array TypeId} {d : Nat} {vs : List Value} {R : Ending → World → Prop}
    (hg : wantB ops L g = some true) (hd : dst = some d) (hN : Nat.ble (d + 1) N.n = true) (hx : ev L x = some (.func (.func f) #[] cap)) (he : enterB P f = true) (ha : evs L xs = some vs)
    (hc : Calls P f (vs.toArray ++ cap) w R) (k : ∀ e w', R e w' → ∃ v, e = .returned v ∧ wpS P ops Q rest N ((d, v) :: L) w') :
    wpS P ops Q (⟨dst, .call { callee := .value x, args := xs.toArray, argTypes := ts }, ty, pos, af, g⟩ :: rest) N L w := .mk fun a hF => by
  subst hd
  unfold wpList
  rw [if_pos (wanted_of hF hg)]
  refine .inl ?_
  unfold Oper.wp
  have e1 : xs.toArray.map a.eval = vs.toArray := by simp [hF.agr.map ha]
  simp only [execOp, resolve, Sem.run_bind, e1, hF.eval hx, Deferred.ofValue, Sem.run_pure, Result.andThen_ok, invoke, callFunc_enter he, Oper.upon]
  have e2 : (#[] : Array Value) ++ vs.toArray ++ cap = vs.toArray ++ cap := by simp
  rw [e2]
  refine hc.mono fun e w' hR => ?_
  obtain ⟨v, rfl, hk⟩ := k e w' hR
  exact hk.go _ (hF.put hN v)

/-! ### Code -/
theorem wpC_seq_k {x y : Code} (k : ∀ K : Act → World → Prop, (∀ a w, wpo P ro y Q a w → K a w) → wpC P ro x (Exit.then K Q) N L w) : wpC P ro (.seq x y) Q N L w := .mk fun a hF => wpo_seq ((k _ (fun _ _ h => h)).go a hF)
theorem wpC_region {id : Nat} {l : List Oper} (k : wpS P l.toArray Q l N L w) : wpC P none (.region id l.toArray false) Q N L w := .mk fun a hF => wpo_of_wp (wp_region_lit (k.go a hF))
theorem wpC_regionR {id : Nat} {l : List Oper} (hQ : NL Q) (hd : l.all noDefer = true) (k : wpS P l.toArray Q l N L w) : wpC P ro (.region id l.toArray false) Q N L w := .mk fun a hF => wpo_of_in (n := 9) (wpIn_region_lit (list_in hQ l hd a w (k.go a hF)))
theorem wpC_skip (k : QH Q .normal N L w) : wpC P ro .skip Q N L w := .mk fun a hF => wpo_of_in (n := 9) (wpIn_skip (k.go a hF))
theorem wpC_ret (k : QH Q .ret N L w) : wpC P ro .ret Q N L w := .mk fun a hF => wpo_of_in (n := 9) (wpIn_ret (k.go a hF))
theorem wpC_exit {id : Nat} (k : QH Q (.exit id) N L w) : wpC P ro (.exit id) Q N L w := .mk fun a hF => wpo_of_in (n := 9) (wpIn_exit (k.go a hF))
theorem wpC_goto {id : Nat} (k : QH Q (.goto id) N L w) : wpC P ro (.goto id) Q N L w := .mk fun a hF => wpo_of_in (n := 9) (wpIn_goto (k.go a hF))
theorem wpC_label {id : Nat} (k : QH Q .normal N L w) : wpC P ro (.label id) Q N L w := .mk fun a hF => wpo_of_in (n := 9) (wpIn_label (k.go a hF))
theorem wpC_block {id : Nat} {c : Code} (k : wpC P ro c (Exit.inBlock id Q) N L w) : wpC P ro (.block id c) Q N L w := .mk fun a hF => wpo_block (k.go a hF)
theorem wpC_cond_t {c : Operand} {x y : Code} {b : Bool} (hc : ev L c = some (.bool b)) (hb : b = true) (k : wpC P ro x Q N L w) : wpC P ro (.cond c x y) Q N L w := .mk fun a hF => by
  subst hb; exact wpo_cond (hF.eval hc) (k.go a hF)
theorem wpC_cond_f {c : Operand} {x y : Code} {b : Bool} (hc : ev L c = some (.bool b)) (hb : b = false) (k : wpC P ro y Q N L w) : wpC P ro (.cond c x y) Q N L w := .mk fun a hF => by
  subst hb; exact wpo_cond (hF.eval hc) (k.go a hF)
theorem wpC_cond {c : Operand} {x y : Code} {b : Bool} (hc : ev L c = some (.bool b)) (k : b = true → wpC P ro x Q N L w) (k' : b = false → wpC P ro y Q N L w) : wpC P ro (.cond c x y) Q N L w := .mk fun a hF => by
  cases b
  · exact wpo_cond (hF.eval hc) ((k' rfl).go a hF)
  · exact wpo_cond (hF.eval hc) ((k rfl).go a hF)
theorem QH_seq_k {y : Code} {K : Act → World → Prop} {Q' : Exit → Act → World → Prop} (hK : ∀ a w, wpo P ro y Q a w → K a w) (k : wpC P ro y Q N L w) : QH (Exit.then K Q') .normal N L w := .mk fun a hF => hK _ _ (k.go a hF)
theorem QH_then_ret {K : Act → World → Prop} (k : QH Q .ret N L w) : QH (Exit.then K Q) .ret N L w := .mk k.go
theorem QH_then_exit {K : Act → World → Prop} {id : Nat} (k : QH Q (.exit id) N L w) : QH (Exit.then K Q) (.exit id) N L w := .mk k.go
theorem QH_then_goto {K : Act → World → Prop} {id : Nat} (k : QH Q (.goto id) N L w) : QH (Exit.then K Q) (.goto id) N L w := .mk k.go
theorem QH_block_normal {id : Nat} (k : QH Q .normal N L w) : QH (Exit.inBlock id Q) .normal N L w := .mk k.go
theorem QH_block_ret {id : Nat} (k : QH Q .ret N L w) : QH (Exit.inBlock id Q) .ret N L w := .mk k.go
theorem QH_block_goto {id l : Nat} (k : QH Q (.goto l) N L w) : QH (Exit.inBlock id Q) (.goto l) N L w := .mk k.go
theorem QH_block_hit {id : Nat} (k : QH Q .normal N L w) : QH (Exit.inBlock id Q) (.exit id) N L w := .mk fun a hF => by simp only [Exit.inBlock, if_true]; exact k.go a hF
/-- A loop: its head's slots are a list that hangs on x. -/
def Again {X : Type} (N : FS) (Lx : X → List (Nat × Value)) (J : X → World → Prop) (μ : X → Nat) (x : X) (a : Act) (w : World) : Prop := ∃ x', Fr N (Lx x') a ∧ J x' w ∧ μ x' < μ x
theorem wpC_loop {X : Type} {c : Code} (Lx : X → List (Nat × Value)) (J : X → World → Prop) (μ : X → Nat) (x0 : X) (hs : Sub (Lx x0) L) (h0 : J x0 w)
    (round : ∀ x w, J x w → wpC P ro c (Exit.then (Again N Lx J μ x) Q) N (Lx x) w) : wpC P ro (.loop c) Q N L w := .mk fun a hF => by
  classical
  let p : Act → World → Nat → Prop := fun a w n => ∃ x, Fr N (Lx x) a ∧ J x w ∧ μ x = n
  have hmin : ∀ a w, (∃ n, p a w n) → ∃ m, p a w m ∧ ∀ k, p a w k → m ≤ k := fun a w ⟨n, hn⟩ => by
    induction n using Nat.strongRecOn with
    | _ n ih =>
      by_cases h : ∃ k, k < n ∧ p a w k
      · obtain ⟨k, hk, hp⟩ := h; exact ih k hk hp
      · exact ⟨n, hn, fun k hk => Nat.le_of_not_lt fun hlt => h ⟨k, hlt, hk⟩⟩
  let M : Act → World → Nat := fun a w => if h : ∃ n, p a w n then (hmin a w h).choose else 0
  refine wpo_loop (fun a w => ∃ x, Fr N (Lx x) a ∧ J x w) M ⟨x0, hF.sub hs, h0⟩ fun a w ⟨x, hx, hj⟩ => ?_
  have hex : ∃ n, p a w n := ⟨μ x, x, hx, hj, rfl⟩
  obtain ⟨⟨y, hy, hjy, hM⟩, _⟩ := (hmin a w hex).choose_spec
  have hMa : M a w = μ y := by simp only [M, dif_pos hex]; exact hM.symm
  refine wpo_mono ((round y w hjy).go a hy) fun e a' w' he => ?_
  cases e with
  | normal =>
    obtain ⟨x', hF', hJ', hlt⟩ := he
    refine ⟨⟨x', hF', hJ'⟩, ?_⟩
    have hex' : ∃ n, p a' w' n := ⟨μ x', x', hF', hJ', rfl⟩
    have := (hmin a' w' hex').choose_spec.2 (μ x') ⟨x', hF', hJ', rfl⟩
    have hMa' : M a' w' = (hmin a' w' hex').choose := by simp only [M, dif_pos hex']
    omega
  | _ => exact he
theorem QH_again {X : Type} {Lx : X → List (Nat × Value)} {J : X → World → Prop} {μ : X → Nat} {x : X} (x' : X) (hs : Sub (Lx x') L) (hJ : J x' w) (hm : μ x' < μ x) : QH (Exit.then (Again N Lx J μ x) Q) .normal N L w := .mk fun a hF => ⟨x', hF.sub hs, hJ, hm⟩
end
end Go.Proofs.YtofheinbbefbcaaDoor
/- A walk by laws alone. Third part: operations that make or write blocks of one's own; entering, leaving. -/
namespace Go.Proofs.YtofheinbbefbcaaDoor
open Go Go.RowKit
set_option maxRecDepth 100000

/-- One entry of a list exchanged. -/
inductive Pos : List Ent → Ent → List Ent → Ent → Prop
  | head {e e' : Ent} {H : List Ent} : Pos (e :: H) e (e' :: H) e'
  | tail {x e e' : Ent} {H H' : List Ent} (h : Pos H e H' e') : Pos (x :: H) e (x :: H') e'
theorem Pos.set {H H' : List Ent} {e e' : Ent} (h : Pos H e H' e') : ∃ i : Nat, H[i]? = some e ∧ H' = H.set i e' := by
  induction h with
  | head => exact ⟨0, rfl, rfl⟩
  | tail h ih => obtain ⟨i, h1, h2⟩ := ih; exact ⟨i + 1, by simpa using h1, by simp [h2]⟩
/-- An entry of a list. -/
inductive Has : List Ent → Ent → Prop
  | head {e : Ent} {H : List Ent} : Has (e :: H) e
  | tail {x e : Ent} {H : List Ent} (h : Has H e) : Has (x :: H) e
theorem Has.mem {H : List Ent} {e : Ent} (h : Has H e) : e ∈ H := by
  induction h with
  | head => simp
  | tail h ih => exact List.mem_cons_of_mem _ ih
/-- The first n. -/
inductive Pre : List Value → Nat → List Value → Prop
  | zero {cs : List Value} : Pre cs 0 []
  | succ {c : Value} {cs vs : List Value} {n : Nat} (h : Pre cs n vs) : Pre (c :: cs) (n + 1) (c :: vs)
/-- n from o on. -/
inductive Seg : List Value → Nat → Nat → List Value → Prop
  | here {cs vs : List Value} {n : Nat} (h : Pre cs n vs) : Seg cs 0 n vs
  | succ {c : Value} {cs vs : List Value} {o n : Nat} (h : Seg cs o n vs) : Seg (c :: cs) (o + 1) n vs
theorem Pre.spec {cs vs : List Value} {n : Nat} (h : Pre cs n vs) : vs = cs.take n ∧ vs.length = n := by
  induction h with
  | zero => simp
  | succ h ih => simp [ih.1.symm, ih.2]
theorem Seg.spec {cs vs : List Value} {o n : Nat} (h : Seg cs o n vs) : vs = (cs.drop o).take n ∧ vs.length = n := by
  induction h with
  | here h => simpa using h.spec
  | succ h ih => simpa using ih
/-- The first are exchanged. -/
inductive Ovr : List Value → List Value → List Value → Prop
  | nil {cs : List Value} : Ovr cs [] cs
  | cons {c v : Value} {cs vs cs' : List Value} (h : Ovr cs vs cs') : Ovr (c :: cs) (v :: vs) (v :: cs')
/-- From o on these are exchanged. -/
inductive SetC : List Value → Nat → List Value → List Value → Prop
  | here {cs vs cs' : List Value} (h : Ovr cs vs cs') : SetC cs 0 vs cs'
  | succ {c : Value} {cs vs cs' : List Value} {o : Nat} (h : SetC cs o vs cs') : SetC (c :: cs) (o + 1) vs (c :: cs')
theorem Ovr.spec {cs vs cs' : List Value} (h : Ovr cs vs cs') : cs'.length = cs.length ∧ vs.length ≤ cs.length ∧ ∀ j, cs'[j]? = if j < vs.length then vs[j]? else cs[j]? := by
  induction h with
  | nil => simp
  | cons h ih =>
    refine ⟨by simp [ih.1], by simp; exact ih.2.1, fun j => ?_⟩
    cases j with
    | zero => simp
    | succ j => simpa using ih.2.2 j
theorem SetC.spec {cs vs cs' : List Value} {o : Nat} (h : SetC cs o vs cs') : cs'.length = cs.length ∧ o + vs.length ≤ cs.length ∧ ∀ j, cs'[j]? = if o ≤ j ∧ j < o + vs.length then vs[j - o]? else cs[j]? := by
  induction h with
  | here h =>
    obtain ⟨h1, h2, h3⟩ := h.spec
    exact ⟨h1, by omega, fun j => by rw [h3 j]; simp⟩
  | @succ c cs vs cs' o h ih =>
    refine ⟨by simp [ih.1], by have := ih.2.1; simp; omega, fun j => ?_⟩
    cases j with
    | zero => simp
    | succ j =>
      have e : j + 1 - (o + 1) = j - o := by omega
      have := ih.2.2 j
      simp only [List.getElem?_cons_succ, this, e]
      by_cases hc : o ≤ j ∧ j < o + vs.length
      · rw [if_pos hc, if_pos (by omega)]
      · rw [if_neg hc, if_neg (by omega)]

section
variable {P : Program} {L : List (Nat × Value)} {R : World → Prop} {d : Option Nat} {ty : TypeId} {pos : String} {af : Array Edge} {g : Option (Nat × Bool)} {S : Nat → Prop} {w0 w : World} {H : List Ent}

/-- A cell, a row of cells of a block of one's own. -/
theorem yv_load_box {x : Operand} {t : TypeId} {b o : Nat} {cs : List Value} {T : TypeId} {v : Value} (hs0 : ScC P t) (hx : ev L x = some (.pointer (some ⟨b, o, none⟩))) {S' : Nat → Prop} (hR : RW R S' w) (hS : St0 S w0 w H) (hH : Has H (.box b cs T)) (hb : S' b) (hc : Seg cs o 1 [v]) : Yv P L R ⟨d, .load t x, ty, pos, af, g⟩ v := by
  have hok : w.heap[b]? = some (.cells cs.toArray T (0, 0)) := hS.ok _ hH.mem
  refine yv_load (w := w) hs0 hx hR hb ?_
  rw [box_cell (T := T) hok]
  have h1 := hc.spec.1
  have h2 : ((cs.drop o).take 1)[0]? = some v := by rw [← h1]; rfl
  simpa using h2
theorem yv_load_boxA {x : Operand} {t : TypeId} {b o n : Nat} {cs : List Value} {T : TypeId} {vs : List Value} (hn0 : AgC P t n) (hx : ev L x = some (.pointer (some ⟨b, o, none⟩))) {S' : Nat → Prop} (hR : RW R S' w) (hS : St0 S w0 w H) (hH : Has H (.box b cs T)) (hb : S' b) (hc : Seg cs o n vs) : Yv P L R ⟨d, .load t x, ty, pos, af, g⟩ (.agg vs.toArray) := by
  have hok : w.heap[b]? = some (.cells cs.toArray T (0, 0)) := hS.ok _ hH.mem
  refine yv_loadA (w := w) hn0 hx hR hb ?_ hc.spec.2
  rw [hc.spec.1]
  exact box_range (T := T) hok

variable {ops : Array Oper} {Q : Exit → Act → World → Prop} {rest : List Oper} {N : FS} {dn : Nat}

theorem run_zero {t : TypeId} {zs : List Value} (h : zeroCells P t = some zs) : ∃ v, (zeroValue t).run P w = .ok v w ∧ v.cells = zs.toArray := by
  unfold zeroCells at h
  cases hi : P.info? t with
  | none => simp [hi] at h
  | some i =>
    cases hz : i.zero with
    | none => simp [hi, hz] at h
    | some v =>
      simp only [hi, hz, Option.bind_some, Option.map_some, Option.some.injEq] at h
      refine ⟨v, by simp [zeroValue, typeInfo, hi, hz], by rw [← h]⟩
theorem wpS_alloc {T : TypeId} {zs : List Value} (hg : wantB ops L g = some true) (hN : Nat.ble (dn + 1) N.n = true) (hz0 : ZcC P T zs) (hS : St0 S w0 w H)
    (k : ∀ b w', St0 S w0 w' (.box b zs T :: H) → Below w.heap.size w w' → wpS P ops Q rest N ((dn, .pointer (some ⟨b, 0, none⟩)) :: L) w') : wpS P ops Q (⟨some dn, .alloc T, ty, pos, af, g⟩ :: rest) N L w := by
  refine wpS_run hg rfl hN (fun ρ _ => ?_) (k w.heap.size (w.alloc (.cells zs.toArray T (0, 0))) (hS.box zs T) ((Below.refl _ _).alloc (Nat.le_refl _) _))
  obtain ⟨v, hv, hc⟩ := run_zero (P := P) (w := w) hz0.h
  simp only [execOp, Instr.alloc, Sem.run_bind, hv, Result.andThen_ok, newVar, newRow, hc]
  rfl
/-- The cells of a value. -/
inductive CellsOf : Value → List Value → Prop
  | agg {cs : List Value} : CellsOf (.agg cs.toArray) cs
  | int {k : IntKind} {n : Int} : CellsOf (.int k n) [.int k n]
  | bool {b : Bool} : CellsOf (.bool b) [.bool b]
  | slice {A : Option Addr} {n c : Nat} : CellsOf (.slice A n c) [.slice A n c]
  | ptr {A : Option Addr} : CellsOf (.pointer A) [.pointer A]
  | func {f : Fn} {a b : Array Value} : CellsOf (.func f a b) [.func f a b]
  | str {s : ByteArray} : CellsOf (.string s) [.string s]
  | map {r : Option Nat} : CellsOf (.map r) [.map r]
theorem CellsOf.spec {v : Value} {cs : List Value} (h : CellsOf v cs) : v.cells = cs.toArray := by cases h <;> rfl
theorem wpS_box {T : TypeId} {x : Operand} {v : Value} {cs : List Value} (hg : wantB ops L g = some true) (hN : Nat.ble (dn + 1) N.n = true) (hx : ev L x = some v) (hc : CellsOf v cs) (hS : St0 S w0 w H)
    (k : ∀ b w', St0 S w0 w' (.box b cs T :: H) → Below w.heap.size w w' → wpS P ops Q rest N ((dn, .pointer (some ⟨b, 0, none⟩)) :: L) w') : wpS P ops Q (⟨some dn, .box T x, ty, pos, af, g⟩ :: rest) N L w := by
  refine wpS_run hg rfl hN (fun ρ hρ => ?_) (k w.heap.size (w.alloc (.cells cs.toArray T (0, 0))) (hS.box cs T) ((Below.refl _ _).alloc (Nat.le_refl _) _))
  simp only [execOp, Instr.box, Sem.run_bind, Sem.run_pure, Result.andThen_ok, newVar, newRow, hρ x v hx, hc.spec]
  rfl
theorem box_there {b o n : Nat} {cs : List Value} {T : TypeId} (h : Ent.ok w (.box b cs T)) (hl : o + n ≤ cs.length) : w.there b o n := fun j hj => by
  have h' : w.heap[b]? = some (.cells cs.toArray T (0, 0)) := h
  refine ⟨?_, by simp [World.frozen?, h']⟩
  rw [box_cell h, List.getElem?_eq_getElem (by omega)]
  rfl
theorem heap_setCells (b : Nat) : ∀ (vs : List Value) (o : Nat) (w : World) (k : Nat), k ≠ b → (w.setCells b o vs).heap[k]? = w.heap[k]?
  | [], _, _, _, _ => rfl
  | v :: vs, o, w, k, h => by
    rw [World.setCells, heap_setCells b vs (o + 1) _ k h]
    simp only [World.setCell, Array.getElem?_modify]
    rw [if_neg (fun e => h e.symm)]
theorem size_setCells (b : Nat) : ∀ (vs : List Value) (o : Nat) (w : World), (w.setCells b o vs).heap.size = w.heap.size ∧ (w.setCells b o vs).os = w.os ∧ (w.setCells b o vs).tape = w.tape ∧ (w.setCells b o vs).output = w.output
  | [], _, _ => ⟨rfl, rfl, rfl, rfl⟩
  | v :: vs, o, w => by
    rw [World.setCells]
    obtain ⟨h1, h2, h3, h4⟩ := size_setCells b vs (o + 1) (w.setCell ⟨b, o, none⟩ v)
    refine ⟨h1.trans ?_, h2, h3, h4⟩
    simp [World.setCell]
theorem block_setCells (b : Nat) (T : TypeId) : ∀ (vs : List Value) (o : Nat) (w : World) (cs cs' : List Value), w.heap[b]? = some (.cells cs.toArray T (0, 0)) → SetC cs o vs cs' → (w.setCells b o vs).heap[b]? = some (.cells cs'.toArray T (0, 0))
  | [], o, w, cs, cs', h, hs => by
    obtain ⟨h1, h2, h3⟩ := hs.spec
    have : cs' = cs := List.ext_getElem? fun j => by rw [h3 j, if_neg (by simp only [List.length_nil]; omega)]
    rw [this]; exact h
  | v :: vs, o, w, cs, cs', h, hs => by
    obtain ⟨h1, h2, h3⟩ := hs.spec
    have hb : (w.setCell ⟨b, o, none⟩ v).heap[b]? = some (.cells (cs.set o v).toArray T (0, 0)) := by
      simp only [World.setCell, Array.getElem?_modify, if_true, h, Option.map_some]
      simp
    have e : SetC (cs.set o v) (o + 1) vs cs' := by
      have key : ∀ (vs cs cs' : List Value) (o : Nat), cs'.length = cs.length → o + vs.length ≤ cs.length → (∀ j, cs'[j]? = if o ≤ j ∧ j < o + vs.length then vs[j - o]? else cs[j]?) → SetC cs o vs cs' := by
        intro vs cs
        induction cs generalizing vs with
        | nil =>
          intro cs' o k1 k2 _
          have : cs' = [] := List.eq_nil_of_length_eq_zero (by simpa using k1)
          subst this
          have : vs = [] := List.eq_nil_of_length_eq_zero (by simp only [List.length_nil] at k2; omega)
          subst this
          have : o = 0 := by simpa using k2
          subst this
          exact .here .nil
        | cons c cs ih =>
          intro cs' o k1 k2 k3
          cases cs' with
          | nil => simp at k1
          | cons c' cs' =>
            cases o with
            | succ o =>
              have hc : c' = c := by have := k3 0; simpa using this
              subst hc
              refine .succ (ih vs cs' o (by simpa using k1) (by simp at k2; omega) fun j => ?_)
              have := k3 (j + 1)
              simp only [List.getElem?_cons_succ, show j + 1 - (o + 1) = j - o by omega] at this
              rw [this]
              by_cases hc : o ≤ j ∧ j < o + vs.length
              · rw [if_pos hc, if_pos (by omega)]
              · rw [if_neg hc, if_neg (by omega)]
            | zero =>
              cases vs with
              | nil =>
                have hc : c' = c := by have := k3 0; simpa using this
                have : cs' = cs := List.ext_getElem? fun j => by have := k3 (j + 1); simpa using this
                subst hc; subst this
                exact .here .nil
              | cons v vs =>
                have hc : c' = v := by have := k3 0; simpa using this
                subst hc
                have := ih vs cs' 0 (by simpa using k1) (by simp at k2; omega) fun j => by
                  have := k3 (j + 1)
                  simp at this
                  rw [this]
                  simp
                cases this with
                | here h => exact .here (.cons h)
      refine key vs (cs.set o v) cs' (o + 1) (by simpa using h1) (by simp at h2 ⊢; omega) fun j => ?_
      rw [h3 j]
      simp only [List.length_cons, List.getElem?_set]
      by_cases hj : j = o
      · subst hj
        rw [if_pos (by omega), if_neg (by omega), if_pos rfl, if_pos (by simp at h2; omega)]
        simp
      · by_cases hc : o + 1 ≤ j ∧ j < o + 1 + vs.length
        · rw [if_pos (by omega), if_pos hc, show j - o = (j - (o + 1)) + 1 by omega]; simp
        · rw [if_neg (by omega), if_neg hc, if_neg (by omega)]
    exact block_setCells b T vs (o + 1) _ _ _ hb e
theorem store_run {T : TypeId} {b o : Nat} {v : Value} {vs : List Value} (hc : CellsOf v vs) (ht : w.there b o vs.length) (hi : (P.info? T).map (·.size) = some vs.length) (h1 : vs.all (·.oneCell') = true) :
    (Instr.storeAt T (.pointer (some ⟨b, o, none⟩)) v).run P w = .ok () (w.setCells b o vs) := by
  have := run_storeCells_cells (P := P) b o vs 0 w (fun j hj => by simpa using (ht j hj).1) (fun j hj => by simpa using (ht j hj).2) (fun v hv => (List.all_eq_true.1 h1) v hv)
  cases hq : P.info? T with
  | none => simp [hq] at hi
  | some i =>
    have hs : i.size = vs.length := by simpa [hq] using hi
    simp only [Nat.add_zero] at this
    simp [Instr.storeAt, Instr.sureAddr, storeVar, sizeOf, typeInfo, hq, hc.spec, hs, this]
/-- A store into a block of one's own. -/
theorem wpS_store {T : TypeId} {x y : Operand} {b o : Nat} {cs cs' vs : List Value} {TB : TypeId} {v : Value} {H' : List Ent} (hg : wantB ops L g = some true) (hx : ev L x = some (.pointer (some ⟨b, o, none⟩))) (hy : ev L y = some v) (hv : CellsOf v vs)
    (hS : St0 S w0 w H) (hH : Pos H (.box b cs TB) H' (.box b cs' TB)) (hc : SetC cs o vs cs') (hi : (P.info? T).map (·.size) = some vs.length) (h1 : vs.all (·.oneCell') = true)
    (k : ∀ w', St0 S w0 w' H' → KeepB (fun k => k ≠ b) w w' → wpS P ops Q rest N L w') : wpS P ops Q (⟨none, .store T x y, ty, pos, af, g⟩ :: rest) N L w := by
  obtain ⟨i, hi1, rfl⟩ := hH.set
  have hok : w.heap[b]? = some (.cells cs.toArray TB (0, 0)) := hS.ok _ (List.mem_of_getElem? hi1)
  have ht : w.there b o vs.length := box_there (T := TB) hok hc.spec.2.1
  have hz := size_setCells b vs o w
  refine wpS_run0 hg rfl (fun ρ hρ => ?_) (k (w.setCells b o vs) (hS.change i hi1 (by rw [hz.1]; exact Nat.le_refl _) hz.2 (fun k hk _ => heap_setCells b vs o w k (fun h => hk h)) (block_setCells b TB vs o w cs cs' hok hc) (fun k hk => .inl hk)) ⟨hz.2.1, hz.2.2.1, hz.2.2.2, by rw [hz.1]; exact Nat.le_refl _, fun k _ hk => heap_setCells b vs o w k hk⟩)
  simp only [execOp, hρ x _ hx, hρ y _ hy, Sem.run_bind, store_run hv ht hi h1, Result.andThen_ok, Sem.run_pure]

/-- What lay there at the start. -/
theorem yv_load_old {x : Operand} {t : TypeId} {b o : Nat} {v : Value} {S' : Nat → Prop} (hs0 : ScC P t) (hx : ev L x = some (.pointer (some ⟨b, o, none⟩))) (hR : RW R S' w) (hS : St0 S w0 w H) (hb : S' b) (hb' : S b) (hc : w0.cell? ⟨b, o, none⟩ = some v) : Yv P L R ⟨d, .load t x, ty, pos, af, g⟩ v :=
  yv_load hs0 hx hR hb (hS.base.cell (p := ⟨b, o, none⟩) hb' hc)
theorem yv_g_bin {op : BinOp} {t t' : TypeId} {x y : Operand} {v : Value} (h : Yv P L R ⟨d, .binOp op t x y t', ty, pos, af, g⟩ v) : Yv P L R ⟨d, .binOp op t x y t', ty, pos, af, g⟩ v := h
theorem yv_g_load {t : TypeId} {x : Operand} {v : Value} (h : Yv P L R ⟨d, .load t x, ty, pos, af, g⟩ v) : Yv P L R ⟨d, .load t x, ty, pos, af, g⟩ v := h
theorem yv_g_bi {b : Builtin} {xs : Array Operand} {ts : Array TypeId} {v : Value} (h : Yv P L R ⟨d, .call { callee := .builtin b, args := xs, argTypes := ts }, ty, pos, af, g⟩ v) : Yv P L R ⟨d, .call { callee := .builtin b, args := xs, argTypes := ts }, ty, pos, af, g⟩ v := h
theorem wpS_g {o : Oper} (h : wpS P ops Q (o :: rest) N L w) : wpS P ops Q (o :: rest) N L w := h
theorem wpS_g_box {T : TypeId} {x : Operand} {dst : Option Nat} (h : wpS P ops Q (⟨dst, .box T x, ty, pos, af, g⟩ :: rest) N L w) : wpS P ops Q (⟨dst, .box T x, ty, pos, af, g⟩ :: rest) N L w := h
theorem wpS_g_alloc {T : TypeId} {dst : Option Nat} (h : wpS P ops Q (⟨dst, .alloc T, ty, pos, af, g⟩ :: rest) N L w) : wpS P ops Q (⟨dst, .alloc T, ty, pos, af, g⟩ :: rest) N L w := h
theorem wpS_g_store {T : TypeId} {x y : Operand} {dst : Option Nat} (h : wpS P ops Q (⟨dst, .store T x y, ty, pos, af, g⟩ :: rest) N L w) : wpS P ops Q (⟨dst, .store T x y, ty, pos, af, g⟩ :: rest) N L w := h

/-! ### Entering and leaving -/
def initL : Nat → List Value → List (Nat × Value)
  | _, [] => []
  | i, v :: vs => (i, v) :: initL (i + 1) vs
theorem initL_lk : ∀ (vs : List Value) (i d : Nat) (v : Value), lk (initL i vs) d = some v → i ≤ d ∧ vs[d - i]? = some v
  | [], _, _, _, h => by cases h
  | u :: vs, i, d, v, h => by
    simp only [initL, lk] at h
    cases hb : Nat.beq i d with
    | true =>
      rw [hb] at h
      simp only [cond_true, Option.some.injEq] at h
      have := Nat.eq_of_beq_eq_true hb
      subst this; subst h
      simp
    | false =>
      rw [hb] at h
      obtain ⟨h1, h2⟩ := initL_lk vs (i + 1) d v h
      refine ⟨by omega, ?_⟩
      rw [show d - i = (d - (i + 1)) + 1 by omega]
      simpa using h2
theorem gw_enter {f : FuncId} {fn : Func} {c : Code} {vs : List Value} {R : Ending → World → Prop} {M : Nat} (hf : P.funcs[f]? = some fn) (hb : fn.body = some c) (hn : fn.ntmps = M) (hM : Nat.ble vs.length M = true)
    (k : wpC P none c (bodyO P fn R) ⟨M, []⟩ (initL 0 vs) w) : Calls P f vs.toArray w R := by
  subst hn
  have hM' : vs.length ≤ fn.ntmps := Nat.le_of_ble_eq_true hM
  have hF : Fr ⟨fn.ntmps, []⟩ (initL 0 vs) { tmps := vs.toArray ++ Array.replicate (fn.ntmps - vs.toArray.size) undef, defers := [] } := by
    refine ⟨by simp; omega, rfl, fun d v hd => ?_⟩
    obtain ⟨_, h2⟩ := initL_lk vs 0 d v hd
    have hlt : d < vs.length := by have := (List.getElem?_eq_some_iff.1 h2).1; omega
    simp only [Nat.sub_zero] at h2
    rw [Array.getElem?_append]
    rw [if_pos (by simpa using hlt)]
    simpa using h2
  exact calls_of_wpo hf hb (wpo_mono (k.go _ hF) fun _ _ _ h => bodyO_M h)

theorem gw_enter0 {f : FuncId} {fn : Func} {c : Code} {R : Ending → World → Prop} {M : Nat} (hf : P.funcs[f]? = some fn) (hb : fn.body = some c) (hn : fn.ntmps = M) (hM : Nat.ble 0 M = true) (k : wpC P none c (bodyO P fn R) ⟨M, []⟩ [] w) : Calls P f #[] w R := gw_enter (vs := []) hf hb hn hM k
theorem gw_enter1 {f : FuncId} {fn : Func} {c : Code} {v0 : Value} {R : Ending → World → Prop} {M : Nat} (hf : P.funcs[f]? = some fn) (hb : fn.body = some c) (hn : fn.ntmps = M) (hM : Nat.ble 1 M = true) (k : wpC P none c (bodyO P fn R) ⟨M, []⟩ [(0, v0)] w) : Calls P f #[v0] w R := gw_enter (vs := [v0]) hf hb hn hM k
theorem gw_enter2 {f : FuncId} {fn : Func} {c : Code} {v0 v1 : Value} {R : Ending → World → Prop} {M : Nat} (hf : P.funcs[f]? = some fn) (hb : fn.body = some c) (hn : fn.ntmps = M) (hM : Nat.ble 2 M = true) (k : wpC P none c (bodyO P fn R) ⟨M, []⟩ [(0, v0), (1, v1)] w) : Calls P f #[v0, v1] w R := gw_enter (vs := [v0, v1]) hf hb hn hM k
theorem gw_enter3 {f : FuncId} {fn : Func} {c : Code} {v0 v1 v2 : Value} {R : Ending → World → Prop} {M : Nat} (hf : P.funcs[f]? = some fn) (hb : fn.body = some c) (hn : fn.ntmps = M) (hM : Nat.ble 3 M = true) (k : wpC P none c (bodyO P fn R) ⟨M, []⟩ [(0, v0), (1, v1), (2, v2)] w) : Calls P f #[v0, v1, v2] w R := gw_enter (vs := [v0, v1, v2]) hf hb hn hM k
theorem gw_enter4 {f : FuncId} {fn : Func} {c : Code} {v0 v1 v2 v3 : Value} {R : Ending → World → Prop} {M : Nat} (hf : P.funcs[f]? = some fn) (hb : fn.body = some c) (hn : fn.ntmps = M) (hM : Nat.ble 4 M = true) (k : wpC P none c (bodyO P fn R) ⟨M, []⟩ [(0, v0), (1, v1), (2, v2), (3, v3)] w) : Calls P f #[v0, v1, v2, v3] w R := gw_enter (vs := [v0, v1, v2, v3]) hf hb hn hM k
/-- What a function's results come to. -/
inductive RV (P : Program) (L : List (Nat × Value)) (w : World) : List ResultVar → List Value → Prop
  | nil : RV P L w [] []
  | tmp {t : Nat} {v : Value} {rs : List ResultVar} {vs : List Value} (hv : lk L t = some v) (h : RV P L w rs vs) : RV P L w (.tmp t :: rs) (v :: vs)
  | cell {t T b o : Nat} {v : Value} {rs : List ResultVar} {vs : List Value} (hv : lk L t = some (.pointer (some ⟨b, o, none⟩))) (hl : (loadVar T ⟨b, o, none⟩).run P w = .ok v w) (h : RV P L w rs vs) : RV P L w (.cell t T :: rs) (v :: vs)
theorem load_boxA {t b o n : Nat} {cs : List Value} {T : TypeId} {vs : List Value} (hn0 : AgC P t n) (hS : St0 S w0 w H) (hH : Has H (.box b cs T)) (hc : Seg cs o n vs) : (loadVar t ⟨b, o, none⟩).run P w = .ok (.agg vs.toArray) w := by
  have hok : w.heap[b]? = some (.cells cs.toArray T (0, 0)) := hS.ok _ hH.mem
  have hr := box_range (o := o) (n := n) (T := T) hok
  rw [← hc.spec.1] at hr
  have hl := hc.spec.2
  have hn := hn0.h
  unfold aggN at hn
  split at hn
  · rename_i fs hu
    exact run_loadVar_mid (P := P) w b o t vs (.struct fs) hr hu rfl (by rw [hl]; exact hn)
  · rename_i e m hu
    exact run_loadVar_mid (P := P) w b o t vs (.array e m) hr hu rfl (by rw [hl]; exact hn)
  · cases hn
def tupV : List Value → Value
  | [v] => v
  | vs => .tuple vs.toArray
inductive F2 {α β : Type} (p : α → β → Prop) : List α → List β → Prop
  | nil : F2 p [] []
  | cons {a : α} {b : β} {la : List α} {lb : List β} (h : p a b) (t : F2 p la lb) : F2 p (a :: la) (b :: lb)
theorem mapM_run {α : Type} (q : α → Sem Value) : ∀ (rs : List α) (vs : List Value), F2 (fun r v => (q r).run P w = .ok v w) rs vs → (rs.mapM q).run P w = .ok vs w
  | [], vs, h => by cases h; simp
  | r :: rs, vs, h => by
    cases h with
    | cons h1 h2 =>
      simp only [List.mapM_cons, Sem.run_bind, h1, Result.andThen_ok, mapM_run q rs _ h2, Sem.run_pure]
theorem map_run {α β : Type} (f : α → β) (s : Sem α) {v : α} (h : s.run P w = .ok v w) : (f <$> s).run P w = .ok (f v) w := by
  rw [show f <$> s = s >>= (fun x => pure (f x)) from rfl, Sem.run_bind, h]; simp
theorem results_run {fn : Func} {rs : List ResultVar} {vs : List Value} (hr : fn.results = rs.toArray) (h : RV P L w rs vs) {a : Act} (hF : Fr N L a) : (results fn a.tmps).run P w = .ok (tupV vs) w := by
  unfold results
  rw [hr, List.mapM_toArray, Sem.run_bind, map_run List.toArray _ (mapM_run _ rs vs ?_)]
  · simp only [Result.andThen_ok, Sem.run_pure]
    congr 1
    match vs with
    | [] => rfl
    | [v] => rfl
    | v :: u :: vs => simp [tupV]
  · clear hr
    induction h with
    | nil => exact .nil
    | tmp hv h ih =>
      refine .cons ?_ ih
      have := hF.at_ _ _ hv
      simp [this]
    | cell hv hl h ih =>
      refine .cons ?_ ih
      have := hF.at_ _ _ hv
      simp [this, asAddr, hl]
theorem QH_ret {fn : Func} {rs : List ResultVar} {vs : List Value} {R : Ending → World → Prop} (hr : fn.results = rs.toArray) (h : RV P L w rs vs) (hN : N.d = []) (k : R (.returned (tupV vs)) w) : QH (bodyO P fn R) .ret N L w := .mk fun a hF =>
  ⟨w, (by rw [hF.defers, hN]; rfl), _, results_run hr h hF, k⟩
theorem QH_end {fn : Func} {rs : List ResultVar} {vs : List Value} {R : Ending → World → Prop} (hr : fn.results = rs.toArray) (h : RV P L w rs vs) (hN : N.d = []) (k : R (.returned (tupV vs)) w) : QH (bodyO P fn R) .normal N L w := .mk fun a hF =>
  ⟨w, (by rw [hF.defers, hN]; rfl), _, results_run hr h hF, k⟩
end
end Go.Proofs.YtofheinbbefbcaaDoor
/- A walk by laws alone. Fourth part: regions that draw their order; rows of one's own; panics. -/
namespace Go.Proofs.YtofheinbbefbcaaDoor
open Go Go.RowKit
set_option maxRecDepth 100000

/-- What is asked at a panic hangs on no slot. -/
structure PF (Q : Exit → Act → World → Prop) : Prop where
  put : ∀ c (a : Act) d v w, Q (.panic c) (a.put d v) w → Q (.panic c) a w
theorem put_defers (a : Act) (d : Option Nat) (v : Value) : (a.put d v).defers = a.defers := by cases d <;> rfl
theorem PF.body {P : Program} {fn : Func} {R : Ending → World → Prop} : PF (bodyO P fn R) := ⟨fun c a d v w h => by obtain ⟨w', h1, h2⟩ := h; rw [put_defers] at h1; exact ⟨w', h1, h2⟩⟩
theorem PF.then {K : Act → World → Prop} {Q : Exit → Act → World → Prop} (h : PF Q) : PF (Exit.then K Q) := ⟨fun c a d v w hq => h.put c a d v w hq⟩
theorem PF.inBlock {id : Nat} {Q : Exit → Act → World → Prop} (h : PF Q) : PF (Exit.inBlock id Q) := ⟨fun c a d v w hq => h.put c a d v w hq⟩

section
variable {P : Program} {ops : Array Oper} {Q : Exit → Act → World → Prop} {md : Region.Mode} {G : Nat → Nat → Prop} {sl : List Nat} {N : FS} {L L' : List (Nat × Value)} {w w0 : World} {S : Nat → Prop} {H : List Ent}

/-- May these be taken first, in this order? -/
def freeOk (md : Region.Mode) (ops : Array Oper) (sz : Nat) : Array Bool → List Nat → List Oper → Bool
  | _, [], [] => true
  | listed, i :: is, o :: ls => (Region.ready md ops listed).contains i && Region.free md ops listed i && (match o.dst with | some d => decide (d < sz) && ls.all (fun o' => o'.dst != some d) | none => false) && freeOk md ops sz (listed.setIfInBounds i true) is ls
  | _, _, _ => false
/-- What a batch of reads leaves in the slots. -/
inductive LtC (P : Program) (ops : Array Oper) (N : FS) (R : World → Prop) : List Oper → List (Nat × Value) → List (Nat × Value) → Prop
  | nil {L : List (Nat × Value)} : LtC P ops N R [] L L
  | put {o : Oper} {ls : List Oper} {L L' : List (Nat × Value)} {d : Nat} {v : Value} (hg : wantB ops L o.guard = some true) (hd : o.dst = some d) (hN : Nat.ble (d + 1) N.n = true) (hv : Yv P L R o v) (k : LtC P ops N R ls ((d, v) :: L) L') : LtC P ops N R (o :: ls) L L'
  | skip {o : Oper} {ls : List Oper} {L L' : List (Nat × Value)} {d : Nat} (hg : wantB ops L o.guard = some false) (hd : o.dst = some d) (hN : Nat.ble (d + 1) N.n = true) (k : LtC P ops N R ls ((d, undef) :: L) L') : LtC P ops N R (o :: ls) L L'

/-- A region under way. -/
structure wpR (P : Program) (md : Region.Mode) (ops : Array Oper) (G : Nat → Nat → Prop) (sl : List Nat) (Q : Exit → Act → World → Prop) (f : Nat) (listed : Array Bool) (N : FS) (L : List (Nat × Value)) (w : World) : Prop where
  go : ∀ a, Fr N L a → wpF P md ops G sl Q f listed a w
theorem wpR_lightsI {R : World → World → Prop} {nw : List Nat} (hR : Stands G R nw) (hns : Region.noSelect ops = true) (hP : PF Q) : ∀ (is : List Nat) (ls : List Oper) (fuel : Nat) (listed : Array Bool) (L : List (Nat × Value)),
    Sel ops is ls → freeOk md ops N.n listed is ls = true → sealsOk md ops sl nw listed is = true → LtC P ops N (fun w1 => R w w1) ls L L' →
    wpR P md ops G sl Q fuel (listAll listed is) N L' w → wpR P md ops G sl Q (fuel + is.length) listed N L w
  | [], _ :: _, _, _, _, hf, _, _, _, _ => hf.elim
  | _ :: _, [], _, _, _, hf, _, _, _, _ => hf.elim
  | [], [], fuel, listed, L, hf, _, _, h, K => by cases h; exact K
  | i :: is, o :: ls, fuel, listed, L, ⟨hi, hf⟩, hok, hso, h, K => by
    simp only [freeOk, Bool.and_eq_true] at hok
    obtain ⟨⟨⟨hr, hfree⟩, hd0⟩, hrest⟩ := hok
    simp only [sealsOk, Bool.and_eq_true] at hso
    obtain ⟨⟨hil, hpw⟩, hsrest⟩ := hso
    have hil' : i ∉ sl := by simpa using hil
    have hse := sealsWait_spec hpw
    refine ⟨fun a hF => ?_⟩
    cases h with
    | put hg hd hN hv k =>
      have ih := wpR_lightsI hR hns hP is ls fuel (listed.setIfInBounds i true) _ hf hrest hsrest k K
      have h1 := ih.go (a.put o.dst _) (by rw [hd]; exact hF.put hN _)
      exact wpF_first hR hi (Region.noSelect_spec hns) (fun c a w hq => hP.put c a _ _ w hq) hil' _ listed a w (Region.free_spec hi hfree) hse (by simpa using hr) (.inl ⟨wanted_of hF hg, fun w1 h1 => hv.run w1 h1 a.eval hF.agr⟩) h1
    | skip hg hd hN k =>
      have ih := wpR_lightsI hR hns hP is ls fuel (listed.setIfInBounds i true) _ hf hrest hsrest k K
      have h1 := ih.go (a.put o.dst undef) (by rw [hd]; exact hF.put hN _)
      exact wpF_first hR hi (Region.noSelect_spec hns) (fun c a w hq => hP.put c a _ _ w hq) hil' _ listed a w (Region.free_spec hi hfree) hse (by simpa using hr) (.inr ⟨wanted_of hF hg, rfl⟩) h1
/-- A batch that each seal to come waits for. -/
theorem wpR_lights (m : List Bool) {l : List Oper} {f : Nat} {listed : Array Bool}
    (hm : (m.length ≤ l.length ∧ Region.noSelect l.toArray = true ∧ (pickI m 0).length ≤ f ∧ freeOk md l.toArray N.n listed (pickI m 0) (pickL m l) = true ∧ sealsOk md l.toArray sl [] listed (pickI m 0) = true)) (hP : PF Q)
    (h : LtC P l.toArray N (fun w1 => Below w.heap.size w w1) (pickL m l) L L') (K : wpR P md l.toArray G sl Q (f - (pickI m 0).length) (listAll listed (pickI m 0)) N L' w) : wpR P md l.toArray G sl Q f listed N L w := by
  have e : f = (f - (pickI m 0).length) + (pickI m 0).length := by omega
  rw [e]
  exact wpR_lightsI (R := fun x y => Below x.heap.size x y) ⟨fun x => Below.refl _ _, fun _ _ h => h, fun _ _ _ => bTr, fun _ h => by cases h⟩ hm.2.1 hP (pickI m 0) (pickL m l) _ listed L (sel_pick m l 0 hm.1 (fun j => by simp)) hm.2.2.2.1 hm.2.2.2.2 h K
/-- A batch that stands whatever the seals nw may leave. -/
theorem wpR_lightsG (m : List Bool) (nw : List Nat) (T : Nat → Prop) {l : List Oper} {f : Nat} {listed : Array Bool}
    (hm : (m.length ≤ l.length ∧ Region.noSelect l.toArray = true ∧ (pickI m 0).length ≤ f ∧ freeOk md l.toArray N.n listed (pickI m 0) (pickL m l) = true ∧ sealsOk md l.toArray sl nw listed (pickI m 0) = true)) (hT : ∀ j ∈ nw, ∀ b, T b → G j b) (hP : PF Q)
    (h : LtC P l.toArray N (fun w1 => KeepB T w w1) (pickL m l) L L') (K : wpR P md l.toArray G sl Q (f - (pickI m 0).length) (listAll listed (pickI m 0)) N L' w) : wpR P md l.toArray G sl Q f listed N L w := by
  have e : f = (f - (pickI m 0).length) + (pickI m 0).length := by omega
  rw [e]
  exact wpR_lightsI (R := KeepB T) ⟨fun x => KeepB.refl _ _, fun _ _ h => KeepB.of_below h (fun _ hk _ => hk), fun _ _ _ => KeepB.trans, fun j hj _ _ h => h.sub fun b _ hb => hT j hj b hb⟩ hm.2.1 hP (pickI m 0) (pickL m l) _ listed L (sel_pick m l 0 hm.1 (fun j => by simp)) hm.2.2.2.1 hm.2.2.2.2 h K

/-- The same, what follows told at the end. -/
inductive LtK (P : Program) (ops : Array Oper) (N : FS) (R : World → Prop) (K : List (Nat × Value) → Prop) : List Oper → List (Nat × Value) → Prop
  | nil {L : List (Nat × Value)} (k : K L) : LtK P ops N R K [] L
  | put {o : Oper} {ls : List Oper} {L : List (Nat × Value)} {d : Nat} {v : Value} (hg : wantB ops L o.guard = some true) (hd : o.dst = some d) (hN : Nat.ble (d + 1) N.n = true) (hv : Yv P L R o v) (k : LtK P ops N R K ls ((d, v) :: L)) : LtK P ops N R K (o :: ls) L
  | skip {o : Oper} {ls : List Oper} {L : List (Nat × Value)} {d : Nat} (hg : wantB ops L o.guard = some false) (hd : o.dst = some d) (hN : Nat.ble (d + 1) N.n = true) (k : LtK P ops N R K ls ((d, undef) :: L)) : LtK P ops N R K (o :: ls) L
theorem LtK.out {R : World → Prop} {K : List (Nat × Value) → Prop} {ls : List Oper} {L : List (Nat × Value)} (h : LtK P ops N R K ls L) : ∃ L', LtC P ops N R ls L L' ∧ K L' := by
  induction h with
  | nil k => exact ⟨_, .nil, k⟩
  | put hg hd hN hv k ih => obtain ⟨L', h1, h2⟩ := ih; exact ⟨L', .put hg hd hN hv h1, h2⟩
  | skip hg hd hN k ih => obtain ⟨L', h1, h2⟩ := ih; exact ⟨L', .skip hg hd hN h1, h2⟩
theorem wpR_batch (m : List Bool) {l : List Oper} {f : Nat} {listed : Array Bool}
    (hm : (m.length ≤ l.length ∧ Region.noSelect l.toArray = true ∧ (pickI m 0).length ≤ f ∧ freeOk md l.toArray N.n listed (pickI m 0) (pickL m l) = true ∧ sealsOk md l.toArray sl [] listed (pickI m 0) = true)) (hP : PF Q)
    (h : LtK P l.toArray N (fun w1 => Below w.heap.size w w1) (fun L' => wpR P md l.toArray G sl Q (f - (pickI m 0).length) (listAll listed (pickI m 0)) N L' w) (pickL m l) L) : wpR P md l.toArray G sl Q f listed N L w := by
  obtain ⟨L', h1, h2⟩ := h.out
  exact wpR_lights m hm hP h1 h2
theorem wpR_batchG (m : List Bool) (nw : List Nat) (T : Nat → Prop) {l : List Oper} {f : Nat} {listed : Array Bool}
    (hm : (m.length ≤ l.length ∧ Region.noSelect l.toArray = true ∧ (pickI m 0).length ≤ f ∧ freeOk md l.toArray N.n listed (pickI m 0) (pickL m l) = true ∧ sealsOk md l.toArray sl nw listed (pickI m 0) = true)) (hT : ∀ j ∈ nw, ∀ b, T b → G j b) (hP : PF Q)
    (h : LtK P l.toArray N (fun w1 => KeepB T w w1) (fun L' => wpR P md l.toArray G sl Q (f - (pickI m 0).length) (listAll listed (pickI m 0)) N L' w) (pickL m l) L) : wpR P md l.toArray G sl Q f listed N L w := by
  obtain ⟨L', h1, h2⟩ := h.out
  exact wpR_lightsG m nw T hm hT hP h1 h2
theorem op_of_list {i : Nat} {o : Oper} (hi : ops[i]? = some o) {a : Act} {K : Act → World → Prop} (h : wpList P ops (Exit.then K Q) [o] a w) : wpOp P ops Q i K a w := by
  unfold wpList at h
  unfold wpOp
  simp only [hi]
  split
  · rename_i hw
    rw [if_pos hw] at h
    rcases h with h | ⟨h1, h2⟩
    · refine .inl ?_
      unfold Oper.wp at *
      generalize (execOp a.eval o).run P w = r at *
      cases r with
      | ok n w' =>
        cases n <;> simp only [Oper.upon] at h ⊢
        case value v => exact h
        case skip => exact h
        case defer d => exact h
        case enter f args =>
          refine Calls.mono h fun e w'' he => ?_
          cases e with
          | returned v => exact he
          | panicked c => exact he
          | outgrown => exact he
        case row row args => exact h
      | halt x w' => cases x <;> simp only [Oper.upon] at h ⊢; exact h
    · exact .inr ⟨h1, h2⟩
  · rename_i hw
    rw [if_neg hw] at h
    exact h
/-- Behind an operation that alone may come up. -/
structure StepC (P : Program) (md : Region.Mode) (ops : Array Oper) (G : Nat → Nat → Prop) (sl : List Nat) (Q : Exit → Act → World → Prop) (f : Nat) (listed : Array Bool) (w : World) (a' : Act) (w' : World) : Prop where
  below : Below w.heap.size w w'
  go : wpF P md ops G sl Q f listed a' w'
structure StepG (P : Program) (md : Region.Mode) (ops : Array Oper) (G : Nat → Nat → Prop) (sl : List Nat) (Q : Exit → Act → World → Prop) (T : Nat → Prop) (f : Nat) (listed : Array Bool) (w : World) (a' : Act) (w' : World) : Prop where
  keep : KeepB T w w'
  go : wpF P md ops G sl Q f listed a' w'
theorem wpR_call (m : List Bool) (i : Nat) {o : Oper} {l : List Oper} {f : Nat} {listed : Array Bool}
    (hr : (0 < f ∧ Region.ready md l.toArray listed = [i] ∧ sl.contains i = false)) (ho : pickL m l = [o]) (hi : l.toArray[i]? = some o)
    (k : wpS P l.toArray (Exit.then (StepC P md l.toArray G sl Q (f - 1) (listed.setIfInBounds i true) w) Q) (pickL m l) N L w) : wpR P md l.toArray G sl Q f listed N L w := ⟨fun a hF => by
  obtain ⟨hf, hr, hs⟩ := hr
  have hs : i ∉ sl := by simpa using hs
  obtain ⟨f, rfl⟩ : ∃ g, f = g + 1 := ⟨f - 1, by omega⟩
  refine ⟨fun h0 => (by rw [hr] at h0; cases h0), fun j hj => ?_⟩
  rw [hr] at hj
  obtain rfl : j = i := by simpa using hj
  have k := k.go a hF
  rw [ho] at k
  exact wpOp_mono (fun a' w' h => ⟨⟨fun hh => (hs hh).elim, fun _ => h.below⟩, h.go⟩) (op_of_list hi k)⟩
theorem wpR_seal (m : List Bool) (i : Nat) {o : Oper} {l : List Oper} {f : Nat} {listed : Array Bool}
    (hr : (0 < f ∧ Region.ready md l.toArray listed = [i] ∧ sl.contains i = true)) (ho : pickL m l = [o]) (hi : l.toArray[i]? = some o)
    (k : wpS P l.toArray (Exit.then (StepG P md l.toArray G sl Q (G i) (f - 1) (listed.setIfInBounds i true) w) Q) (pickL m l) N L w) : wpR P md l.toArray G sl Q f listed N L w := ⟨fun a hF => by
  obtain ⟨hf, hr, hs⟩ := hr
  have hs : i ∈ sl := by simpa using hs
  obtain ⟨f, rfl⟩ : ∃ g, f = g + 1 := ⟨f - 1, by omega⟩
  refine ⟨fun h0 => (by rw [hr] at h0; cases h0), fun j hj => ?_⟩
  rw [hr] at hj
  obtain rfl : j = i := by simpa using hj
  have k := k.go a hF
  rw [ho] at k
  exact wpOp_mono (fun a' w' h => ⟨⟨fun _ => h.keep, fun hh => (hh hs).elim⟩, h.go⟩) (op_of_list hi k)⟩
theorem QH_step {f : Nat} {listed : Array Bool} {w' : World} {Q' : Exit → Act → World → Prop} (hb : Below w.heap.size w w') (k : wpR P md ops G sl Q f listed N L w') : QH (Exit.then (StepC P md ops G sl Q f listed w) Q') .normal N L w' := ⟨fun a hF => ⟨hb, k.go a hF⟩⟩
theorem QH_stepG {f : Nat} {listed : Array Bool} {w' : World} {Q' : Exit → Act → World → Prop} {T : Nat → Prop} (hb : KeepB T w w') (k : wpR P md ops G sl Q f listed N L w') : QH (Exit.then (StepG P md ops G sl Q T f listed w) Q') .normal N L w' := ⟨fun a hF => ⟨hb, k.go a hF⟩⟩
theorem wpR_end {f : Nat} {listed : Array Bool} (hr : Region.ready md ops listed = []) (k : QH Q .normal N L w) : wpR P md ops G sl Q f listed N L w := ⟨fun a hF => by
  cases f with
  | zero => exact ⟨hr, k.go a hF⟩
  | succ f => exact ⟨fun _ => k.go a hF, by rw [hr]; simp⟩⟩
theorem wpC_draw {id : Nat} {l : List Oper} (n : Nat) (sl : List Nat) (G : Nat → Nat → Prop) (hm : (P.follows .mixedOrders = true ∧ l.length = n)) (hS : St0 S w0 w H)
    (k : ∀ w', St0 S w0 w' H → Below w.heap.size w w' → wpR P .any l.toArray G sl Q n (Array.replicate n false) N L w') : wpC P none (.region id l.toArray true) Q N L w := ⟨fun a hF => by
  obtain ⟨hm, rfl⟩ := hm
  have hb : Below w.heap.size w w.drew := (Below.refl w.heap.size w).drew
  refine wpo_of_wp (wp_region_any hm ?_)
  have := ((k w.drew (hS.below hb) hb).go a hF).any
  simpa using this⟩
theorem any_in {ro : Option Nat} {n : Nat} {ops : Array Oper} (hQ : NL Q) (hd : ops.toList.all noDefer = true) : ∀ (f : Nat) (listed : Array Bool) (a : Act) (w : World), wpAny P md ops Q f listed a w → wpAnyIn (FR ro) n P md ops Q f listed a w
  | 0, _, _, _, h => h
  | f + 1, listed, a, w, h => ⟨h.1, fun i hi => by
    have h2 := h.2 i hi
    unfold wpOp at h2
    unfold wpOpIn
    cases ho : ops[i]? with
    | none => simp only [ho] at h2 ⊢; exact any_in hQ hd f _ a w h2
    | some o =>
      simp only [ho] at h2 ⊢
      have hdo : noDefer o = true := List.all_eq_true.1 hd o (by have := Array.mem_of_getElem? ho; simpa using this)
      split
      · rename_i hw
        rw [if_pos hw] at h2
        rcases h2 with h2 | ⟨_, a0, w0, h2⟩
        · exact Oper.wpIn_mono (fun a w h => any_in hQ hd f _ a w h) (op_in hdo h2)
        · exact (hQ.no _ _ h2).elim
      · rename_i hw
        rw [if_neg hw] at h2
        exact ⟨fun _ _ => trivial, any_in hQ hd f _ _ w h2⟩⟩
theorem wpC_drawR {ro : Option Nat} {id : Nat} {l : List Oper} (hQ : NL Q) (hd : l.all noDefer = true) (n : Nat) (sl : List Nat) (G : Nat → Nat → Prop) (hm : (P.follows .mixedOrders = true ∧ l.length = n)) (hS : St0 S w0 w H)
    (k : ∀ w', St0 S w0 w' H → Below w.heap.size w w' → wpR P .any l.toArray G sl Q n (Array.replicate n false) N L w') : wpC P ro (.region id l.toArray true) Q N L w := ⟨fun a hF => by
  obtain ⟨hm, rfl⟩ := hm
  have hb : Below w.heap.size w w.drew := (Below.refl w.heap.size w).drew
  refine wpo_of_in (n := 9) (wpIn_region_any hm ?_)
  have := ((k w.drew (hS.below hb) hb).go a hF).any
  exact any_in hQ (by simpa using hd) _ _ _ _ (by simpa using this)⟩

/-! ### Calls that panic, calls that write one block -/
theorem QH_then_panic {K : Act → World → Prop} {c : List PanicEntry} (k : QH Q (.panic c) N L w) : QH (Exit.then K Q) (.panic c) N L w := ⟨k.go⟩
theorem QH_block_panic {id : Nat} {c : List PanicEntry} (k : QH Q (.panic c) N L w) : QH (Exit.inBlock id Q) (.panic c) N L w := ⟨k.go⟩
theorem QH_panic {fn : Func} {R : Ending → World → Prop} {c : List PanicEntry} (hN : N.d = []) (k : R (.panicked c) w) : QH (bodyO P fn R) (.panic c) N L w := ⟨fun _ hF => ⟨w, (by rw [hF.defers, hN]; rfl), k⟩⟩
/-- A slice of n elements of k cells, in memory that came new since w. -/
structure Sl (w w' : World) (A : Option Addr) (n c k : Nat) (xs : List Value) : Prop where
  len : xs.length = n * k
  le : n ≤ c
  cap : c ≤ maxLen
  rd : Rd w' A xs
  blk : ∀ a, A = some a → w.heap.size ≤ a.block ∧ a.block < w'.heap.size
theorem Sl.of_own {w w' : World} {e : TypeId} {k n : Nat} {v : Value} {xs : List Value} (h : w'.ownsRow w.heap.size e k v n xs) : ∃ A c, v = .slice A n c ∧ Sl w w' A n c k xs := by
  rcases h.2 with ⟨rfl, rfl⟩ | ⟨g, cap, cur, rfl, h1, h2, h3, h4, h5, h6⟩
  · have : xs = [] := List.eq_nil_of_length_eq_zero (by simpa using h.1)
    subst this
    exact ⟨none, 0, rfl, by simp, Nat.le_refl _, by simp, Rd.nil _ _, fun a h => by cases h⟩
  · exact ⟨_, cap, rfl, h.1, h3, h4, Rd.of_own h, fun a ha => by injection ha with ha; subst ha; exact ⟨h1, (Array.getElem?_eq_some_iff.1 h2).1⟩⟩
theorem Sl.nil (w w' : World) (k : Nat) : Sl w w' none 0 0 k [] := ⟨by simp, Nat.le_refl _, by simp, Rd.nil _ _, fun _ h => by cases h⟩
theorem Sl.below {w w' w2 : World} {A : Option Addr} {n c k : Nat} {xs : List Value} (h : Sl w w' A n c k xs) (hb : Below w'.heap.size w' w2) : Sl w w2 A n c k xs :=
  ⟨h.len, h.le, h.cap, h.rd.below hb, fun a ha => ⟨(h.blk a ha).1, Nat.lt_of_lt_of_le (h.blk a ha).2 hb.size⟩⟩
theorem Sl.base {w w1 w' : World} {A : Option Addr} {n c k : Nat} {xs : List Value} (h : Sl w1 w' A n c k xs) (hz : w.heap.size ≤ w1.heap.size) : Sl w w' A n c k xs :=
  ⟨h.len, h.le, h.cap, h.rd, fun a ha => ⟨Nat.le_trans hz (h.blk a ha).1, (h.blk a ha).2⟩⟩
/-- It is kept. -/
theorem St0.slice {w' : World} {A : Option Addr} {n c k : Nat} {xs : List Value} (h : St0 S w0 w H) (hs : Sl w w' A n c k xs) (hb : Below w.heap.size w w') : St0 S w0 w' (.rd A xs :: H) :=
  h.add hb hs.rd (fun k ⟨a, ha, hk⟩ => by subst hk; exact hs.blk a ha)
theorem St0.rd {A : Option Addr} {xs : List Value} (h : St0 S w0 w H) (hH : Has H (.rd A xs)) : Rd w A xs := h.ok _ hH.mem
/-- A slice that was there at the start. -/
theorem St0.rd0 {A : Option Addr} {xs : List Value} (h : St0 All w0 w H) (hr : Rd w0 A xs) : Rd w A xs := hr.below h.pure
end
end Go.Proofs.YtofheinbbefbcaaDoor
/- A walk by laws alone. Fifth part: ranges over functions; rounds may panic. -/
namespace Go.Proofs.YtofheinbbefbcaaDoor
open Go Go.RowKit
set_option maxRecDepth 100000

section
variable {P : Program}
/-- What is asked at a round's end. -/
def roundO (P : Program) (l : Nat) (R : Ending → World → Prop) : Exit → Act → World → Prop
  | .normal, _, w => ∃ v w', (Instr.endRound l none).run P w = .ok v w' ∧ R (.returned v) w'
  | .ret, _, w => ∃ v w', (Instr.endRound l (some .ret)).run P w = .ok v w' ∧ R (.returned v) w'
  | .exit id, _, w => ∃ v w', (Instr.endRound l (some (.exit id))).run P w = .ok v w' ∧ R (.returned v) w'
  | .goto t, _, w => ∃ v w', (Instr.endRound l (some (.goto t))).run P w = .ok v w' ∧ R (.returned v) w'
  | .panic c, a, w => a.defers = [] ∧ R (.panicked c) w
  | .outgrown, _, _ => False
theorem round_of_wpo {n l : Nat} {f : FuncId} {tmps : Array Value} {assign body : Code} {w : World} {R : Ending → World → Prop} (hreal : ∃ fn, P.funcs[f]? = some fn)
    (h : wpo P (some l) assign (Exit.then (fun a1 w1 => ∃ w2, (Instr.beginRound l).run P w1 = .ok () w2 ∧ wpo P (some l) body (roundO P l R) a1 w2) (fun _ _ _ => False)) { tmps := tmps, defers := [] } w) :
    RoundIn Fence.wide n P l f tmps assign body w R := by
  refine ⟨trivial, fun c cs hr => ?_⟩
  let b : Frame := { (default : Frame) with fn := f, kind := .normal, roundOf := some l }
  have hb0 : Frame.round l f tmps assign body .normal = b.atR { tmps := tmps, defers := [] } [.code assign, .beginRound, .code body] := by
    simp [Frame.round, Frame.atR, b]
  obtain ⟨e, a1, w1, hq, harr⟩ := h b [.beginRound, .code body] (c :: cs) rfl hreal
  rw [← hb0] at harr
  cases e with
  | normal =>
    obtain ⟨w2, hbr, hbody⟩ := hq
    have s1 : StepsIn (Machine.fenced P Fence.wide) P (lone (b.atR a1 [.beginRound, .code body]) (c :: cs) w1) (lone (b.atR a1 [.code body]) (c :: cs) w2) :=
      .one (fenced_wide P _) (stepR_beginRound rfl hbr)
    obtain ⟨e2, a2, w3, hq2, harr2⟩ := hbody b [] (c :: cs) rfl hreal
    cases e2 with
    | normal =>
      obtain ⟨v, w4, hend, hR⟩ := hq2
      exact ⟨.returned v, w4, hR, (StepsIn.trans harr s1).trans (StepsIn.trans harr2 (.one (fenced_wide P _) (stepR_round_end rfl rfl hend)))⟩
    | ret =>
      obtain ⟨v, w4, hend, hR⟩ := hq2
      obtain ⟨k1, hs⟩ := harr2.2 rfl
      exact ⟨.returned v, w4, hR, (StepsIn.trans harr s1).trans (StepsIn.trans hs (.one (fenced_wide P _) (stepR_round_ret rfl rfl hend)))⟩
    | exit id =>
      obtain ⟨v, w4, hend, hR⟩ := hq2
      obtain ⟨k1, hk, hs⟩ := harr2.2 rfl rfl
      exact ⟨.returned v, w4, hR, (StepsIn.trans harr s1).trans (StepsIn.trans hs (.one (fenced_wide P _) (stepR_round_exit rfl rfl hk hend)))⟩
    | goto t =>
      obtain ⟨v, w4, hend, hR⟩ := hq2
      obtain ⟨k1, hk, hs⟩ := harr2.2 rfl rfl
      exact ⟨.returned v, w4, hR, (StepsIn.trans harr s1).trans (StepsIn.trans hs (.one (fenced_wide P _) (stepR_round_goto rfl rfl hk hend)))⟩
    | panic chain =>
      obtain ⟨hd, hR⟩ := hq2
      obtain ⟨todo, hs⟩ := harr2
      refine ⟨.panicked chain, w3, hR, (StepsIn.trans harr s1).trans (StepsIn.trans hs (.one (fenced_wide P _) (step_leave_panicked ?_)))⟩
      exact ⟨rfl, hd, hreal⟩
    | outgrown => exact hq2.elim
  | exit id => exact hq.elim
  | goto t => exact hq.elim
  | ret => exact hq.elim
  | panic chain => exact hq.elim
  | outgrown => exact hq.elim

/-- When the function that was ranged over has ended. -/
def rangeO (P : Program) (ro : Option Nat) (l : Nat) (Q : Exit → Act → World → Prop) (a' : Act) : Ending → World → Prop
  | .returned _, w3 => ∃ jump w4, (Instr.endLoop l).run P w3 = .ok jump w4 ∧
      (match jump with
       | none => Q .normal a' w4
       | some c => wpo P ro c Q a' w4)
  | .panicked chain, w3 => Q (.panic chain) a' w3
  | .outgrown, _ => LetsOut Q
theorem wpo_rangeFunc {ro : Option Nat} {g : Operand} {ps : Array Tmp} {assign body : Code} {Q : Exit → Act → World → Prop} {a : Act} {w : World}
    (h : ∀ fn, (∃ F, P.funcs[fn]? = some F) → ∃ (l : Nat) (mark : List Deferred) (w1 : World) (d : Deferred) (w1' : World) (f : FuncId) (args : Array Value) (w2 : World),
      (Instr.enterLoop fn a.tmps ps assign body ro).run P w = .ok (l, mark) w1 ∧
      (resolve a.eval (rangeCall g l) 0).run P w1 = .ok d w1' ∧
      (invoke d.target d.args).run P w1' = .ok (.enter f args) w2 ∧
      Calls P f args w2 (rangeO P ro l Q { a with defers := mark ++ a.defers })) :
    wpo P ro (.rangeFunc g ps assign body) Q a w := by
  intro b k cs hro hb
  obtain ⟨l, mark, w1, d, w1', f, args, w2, he, hres, hinv, hcall⟩ := h b.fn hb
  rw [← hro] at he
  have henter := stepR_rangeFunc (P := P) (b := b) (a := a) (k := k) (cs := cs) (w := w) he hres hinv
  obtain ⟨e, w3, fr, hR, hsteps, hfn, hleave⟩ := ((callsIn_wide (n := 9)).2 hcall).2 (b.atR { a with defers := mark ++ a.defers } (.inRangeFunc l :: k) :: cs) (fun _ hd => by cases hd)
  cases e with
  | outgrown =>
    obtain ⟨a0, w0, hq⟩ := hR
    exact ⟨.outgrown, a0, w0, hq, .inr (Outgrown.of_steps (.one henter) hsteps)⟩
  | returned v =>
    obtain ⟨jump, w4, hend, hj⟩ := hR
    have sback : StepsIn (Machine.fenced P Fence.wide) P (lone (b.atR a (.code (.rangeFunc g ps assign body) :: k)) cs w) (lone (b.atR { a with defers := mark ++ a.defers } ((jump.map Item.code).toList ++ k)) cs w4) := by
      refine .head (fenced_wide P _) henter (StepsIn.trans hsteps (.head (fenced_wide P _) ?_ (.one (fenced_wide P _) (stepR_endRangeFunc hend))))
      rw [← finish_atR_inRangeFunc l v]; exact step_leave_returned hleave
    cases jump with
    | none => exact ⟨.normal, _, w4, hj, sback⟩
    | some c =>
      obtain ⟨e', a'', w5, hq, harr⟩ := hj b k cs hro hb
      exact ⟨e', a'', w5, hq, .of_steps sback harr⟩
  | panicked chain =>
    refine ⟨.panic chain, _, w3, hR, .inRangeFunc l :: k, .head (fenced_wide P _) henter (StepsIn.trans hsteps (.one (fenced_wide P _) ?_))⟩
    rw [← Frame.raise_atR]; exact step_leave_panicked hleave

/-- AN ITERATOR'S CONTRACT, rounds that panic let in: as Iter. -/
def IterP {α : Type} (P : Program) (g : Nat) (lb : Array Value) (encs : α → Array Value) (xs : List α) (n0 M : Nat) (w : World) : Prop :=
  ∀ (l : Nat) (J : Nat → World → Prop) (Jx : World → Prop) (Jp : List PanicEntry → World → Prop) (W : World),
    Below w.heap.size w W →
    (∀ k A B, J k A → KeepB (fun b => b < M ∨ w.heap.size ≤ b) A B → J k B) →
    (∀ A B, Jx A → KeepB (fun b => b < M ∨ w.heap.size ≤ b) A B → Jx B) →
    (∀ c A B, Jp c A → KeepB (fun b => b < M ∨ w.heap.size ≤ b) A B → Jp c B) →
    (∀ k x A, xs[k]? = some x → J k A → w.heap.size ≤ A.heap.size → YieldAt Fence.wide 8 P l (encs x) A fun e B =>
      (e = .returned (.bool true) ∧ J (k + 1) B ∧ KeepB (fun b => b < n0 ∨ (M ≤ b ∧ b < w.heap.size)) A B) ∨
      (e = .returned (.bool false) ∧ Jx B ∧ KeepB (fun b => b < n0 ∨ (M ≤ b ∧ b < w.heap.size)) A B) ∨
      (∃ c, e = .panicked c ∧ Jp c B)) →
    J 0 W → Calls P g (#[.func (.yield l) #[] #[]] ++ lb) W fun e B => ((∃ v, e = .returned v) ∧ (J xs.length B ∨ Jx B)) ∨ (∃ c, e = .panicked c ∧ Jp c B)

/-- How a round's body may be left: with a panic, too. -/
def roundEndP (S : Nat → Prop) (I' : World → Prop) (Ix : Code → World → Prop) (Ip : List PanicEntry → World → Prop) (A : World) : Exit → Act → World → Prop
  | .normal, _, B => KeepB S A B ∧ I' B
  | .ret, _, B => KeepB S A B ∧ Ix .ret B
  | .exit id, _, B => KeepB S A B ∧ Ix (.exit id) B
  | .goto t, _, B => KeepB S A B ∧ Ix (.goto t) B
  | .panic c, a, B => a.defers = [] ∧ KeepB S A B ∧ Ip c B
  | .outgrown, _, _ => False

set_option maxHeartbeats 1000000 in
theorem range_o {α : Type} {g : Operand} {ps : Array Tmp} {assign body : Code} {Q : Exit → Act → World → Prop} {a : Act} {w : World}
    {gf : Nat} {lb : Array Value} (hg : a.eval g = .func (.func gf) #[] lb) (eg : ∀ args w, (callFunc gf args).run P w = .ok (.enter gf args) w)
    {encs : α → Array Value} {xs : List α} {n0 M : Nat} (hit : IterP P gf lb encs xs n0 M w) (hnM : n0 ≤ M) (hM : M ≤ w.heap.size) (hps : ∀ x, (encs x).size = ps.size)
    (I : Nat → World → Prop) (Ix : Code → World → Prop) (Ip : List PanicEntry → World → Prop)
    (hI : ∀ k A B, I k A → KeepB (fun b => b < M ∨ w.heap.size + 2 ≤ b) A B → I k B)
    (hIx : ∀ c A B, Ix c A → KeepB (fun b => b < M ∨ w.heap.size + 2 ≤ b) A B → Ix c B)
    (hIp : ∀ c A B, Ip c A → KeepB (fun b => b < M ∨ w.heap.size + 2 ≤ b) A B → Ip c B)
    (h0 : I 0 w)
    (hround : ∀ l k x A, xs[k]? = some x → I k A → w.heap.size + 2 ≤ A.heap.size →
      wpo P (some l) assign (Exit.then (fun a1 A1 => KeepB (fun _ => True) A A1 ∧
        ∀ A2, KeepB (fun b => b < w.heap.size ∨ w.heap.size + 2 ≤ b) A1 A2 → I k A2 →
          wpo P (some l) body (roundEndP (fun b => b < n0 ∨ (M ≤ b ∧ b < w.heap.size + 2)) (I (k + 1)) Ix Ip A2) a1 A2) (fun _ _ _ => False))
        { tmps := (ps.zip (encs x)).foldl (fun t (p, v) => t.setIfInBounds p v) a.tmps, defers := [] } A)
    (hdone : ∀ A, I xs.length A → A.heap[w.heap.size]? = some (.deferred (some [])) → Q .normal { a with defers := { target := .collected w.heap.size, args := #[] } :: a.defers } A)
    (hstop : ∀ c A, Ix c A → A.heap[w.heap.size]? = some (.deferred (some [])) → wpo P none c Q { a with defers := { target := .collected w.heap.size, args := #[] } :: a.defers } A)
    (hpan : ∀ c A, Ip c A → A.heap[w.heap.size]? = some (.deferred (some [])) → Q (.panic c) { a with defers := { target := .collected w.heap.size, args := #[] } :: a.defers } A) :
    wpo P none (.rangeFunc g ps assign body) Q a w := by
  refine wpo_rangeFunc ?_
  intro fn hfn
  obtain ⟨rec, hrec⟩ : ∃ rec : LoopState → Option Code → Loop, rec = fun st pe => { state := st, pending := pe, fn, tmps := a.tmps, params := ps, assign, body, defers := w.heap.size } := ⟨_, rfl⟩
  obtain ⟨W1, hW1⟩ : ∃ W1, (w.alloc (.deferred (some []))).alloc (.loop (rec .ready none)) = W1 := ⟨_, rfl⟩
  have hL1 : W1.heap[w.heap.size + 1]? = some (.loop (rec .ready none)) := by
    rw [← hW1]; have := World.alloc_heap_new (w.alloc (.deferred (some []))) (.loop (rec .ready none)); rwa [World.size_alloc] at this
  have hK1 : W1.heap[w.heap.size]? = some (.deferred (some [])) := by
    rw [← hW1]; exact (Below.heap_alloc _ _ _ (by simp)).trans (World.alloc_heap_new w _)
  have hs1 : W1.heap.size = w.heap.size + 2 := by rw [← hW1]; simp
  have hkw : ∀ S, KeepB S w W1 := fun S => by rw [← hW1]; exact ((KeepB.refl S w).alloc _).alloc _
  have hb1 : Below w.heap.size w W1 := (hkw (fun _ => True)).to_below (Nat.le_refl _) (fun _ _ => trivial)
  have hI1 : I 0 W1 := hI 0 _ _ h0 (hkw _)
  refine ⟨w.heap.size + 1, [{ target := .collected w.heap.size, args := #[] }], W1, { target := .fn (.func gf) lb, args := #[.func (.yield (w.heap.size + 1)) #[] #[]] }, W1, gf,
    #[.func (.yield (w.heap.size + 1)) #[] #[]] ++ lb, W1, ?_, ?_, ?_, ?_⟩
  · rw [← hW1, hrec]; exact run_enterLoop_outer _ _ _ _ _
  · simp only [resolve, hg]
    simp [go_sem]
  · simp [invoke, go_sem, eg]
  · have hit' := hit (w.heap.size + 1)
      (fun k W => I k W ∧ W.heap[w.heap.size + 1]? = some (.loop (rec .ready none)) ∧ W.heap[w.heap.size]? = some (.deferred (some [])))
      (fun W => ∃ c, Ix c W ∧ W.heap[w.heap.size + 1]? = some (.loop (rec .done (some c))) ∧ W.heap[w.heap.size]? = some (.deferred (some [])))
      (fun c W => Ip c W ∧ W.heap[w.heap.size]? = some (.deferred (some [])))
      W1 hb1
      (fun k A B hs hk => ⟨hI k A B hs.1 (hk.sub (fun b _ h => by omega)), hk.heap (by omega) hs.2.1, hk.heap (by omega) hs.2.2⟩)
      (fun A B hs hk => by
        obtain ⟨c, hc, h2, h3⟩ := hs
        exact ⟨c, hIx c A B hc (hk.sub (fun b _ h => by omega)), hk.heap (by omega) h2, hk.heap (by omega) h3⟩)
      (fun c A B hs hk => ⟨hIp c A B hs.1 (hk.sub (fun b _ h => by omega)), hk.heap (by omega) hs.2⟩)
      ?_ ⟨hI1, hL1, hK1⟩
    · refine hit'.mono ?_
      rintro e W2 (⟨⟨v, rfl⟩, (⟨hi, hl, hk⟩ | ⟨c, hi, hl, hk⟩)⟩ | ⟨c, rfl, hi, hk⟩)
      · exact ⟨none, _, by have := run_endLoop (P := P) hl (by rw [hrec]; simp); rw [hrec] at this; exact this,
          hdone _ (hI _ _ _ hi ((KeepB.refl _ _).putObj _ _ (by omega))) ((World.putObj_heap_other (by omega)).trans hk)⟩
      · exact ⟨some c, _, by have := run_endLoop (P := P) hl (by rw [hrec]; simp); rw [hrec] at this; exact this,
          hstop c _ (hIx _ _ _ hi ((KeepB.refl _ _).putObj _ _ (by omega))) ((World.putObj_heap_other (by omega)).trans hk)⟩
      · exact hpan c _ hi hk
    · rintro k x W hx ⟨hi, hl, hk⟩ hsz
      have hlt : w.heap.size + 1 < W.heap.size := (Array.getElem?_eq_some_iff.1 hl).1
      have hy := run_yield (P := P) (args := encs x) hl (by rw [hrec]; exact hps x)
      rw [hrec] at hy
      refine ⟨fn, _, assign, body, hy, round_of_wpo hfn ?_⟩
      refine wpo_mono (hround (w.heap.size + 1) k x W hx hi (by omega)) ?_
      rintro e a1 A1 hp
      cases e with
      | normal =>
        obtain ⟨hk1, hbody⟩ := hp
        have hl1 : A1.heap[w.heap.size + 1]? = some (.loop (rec .ready none)) := hk1.heap trivial hl
        have hd1 : A1.heap[w.heap.size]? = some (.deferred (some [])) := hk1.heap trivial hk
        have hlt1 : w.heap.size + 1 < A1.heap.size := (Array.getElem?_eq_some_iff.1 hl1).1
        refine ⟨_, run_beginRound hl1 (by rw [hrec]), ?_⟩
        obtain ⟨A2, hA2⟩ : ∃ A2, A1.putObj (w.heap.size + 1) (.loop { rec .ready none with state := .busy }) = A2 := ⟨_, rfl⟩
        rw [hA2]
        have hk2 : KeepB (fun b => b ≠ w.heap.size + 1) A1 A2 := by rw [← hA2]; exact (KeepB.refl _ _).putObj _ _ (by omega)
        have hl2 : A2.heap[w.heap.size + 1]? = some (.loop { rec .ready none with state := .busy }) := by rw [← hA2]; exact World.putObj_heap_same hlt1
        have hd2 : A2.heap[w.heap.size]? = some (.deferred (some [])) := hk2.heap (by omega) hd1
        have hkeep12 : KeepB (fun b => b < n0 ∨ (M ≤ b ∧ b < w.heap.size)) W A2 := (hk1.sub (fun _ _ _ => trivial)).trans (hk2.sub (fun b _ h => by omega))
        have fin : ∀ (jump : Option Code) (W3 : World), KeepB (fun b => b < n0 ∨ (M ≤ b ∧ b < w.heap.size + 2)) A2 W3 →
            (Instr.endRound (w.heap.size + 1) jump).run P W3 = .ok (.bool jump.isNone) (W3.putObj (w.heap.size + 1) (.loop (rec (if jump.isNone then .ready else .done) jump))) ∧
            (W3.putObj (w.heap.size + 1) (.loop (rec (if jump.isNone then .ready else .done) jump))).heap[w.heap.size + 1]? = some (.loop (rec (if jump.isNone then .ready else .done) jump)) ∧
            (W3.putObj (w.heap.size + 1) (.loop (rec (if jump.isNone then .ready else .done) jump))).heap[w.heap.size]? = some (.deferred (some [])) ∧
            KeepB (fun b => b < n0 ∨ (M ≤ b ∧ b < w.heap.size)) W (W3.putObj (w.heap.size + 1) (.loop (rec (if jump.isNone then .ready else .done) jump))) := fun jump W3 hk3 => by
          have hl3 := hk3.heap (by omega) hl2
          have := run_endRound (P := P) jump hl3
          rw [hrec] at this ⊢
          refine ⟨this, World.putObj_heap_same (Array.getElem?_eq_some_iff.1 hl3).1, (World.putObj_heap_other (by omega)).trans (hk3.heap (by omega) hd2), ?_⟩
          exact (hkeep12.trans (hk3.sub (fun b _ h => by omega))).putObj _ _ (by omega)
        have hiA2 : I k A2 := hI k A1 A2 (hI k W A1 hi (hk1.sub (fun _ _ _ => trivial))) (hk2.sub (fun b _ h => by omega))
        refine wpo_mono (hbody A2 (hk2.sub (fun b _ h => by omega)) hiA2) ?_
        have hst : ∀ (jump : Option Code) (W3 : World), KeepB (fun b => b < M ∨ w.heap.size + 2 ≤ b) W3 (W3.putObj (w.heap.size + 1) (.loop (rec (if jump.isNone then .ready else .done) jump))) := fun jump W3 => (KeepB.refl _ _).putObj _ _ (by omega)
        rintro e a3 W3 hp
        cases e with
        | normal =>
          obtain ⟨hk3, hi3⟩ := hp
          obtain ⟨hr, hl4, hk4, hk5⟩ := fin none W3 hk3
          exact ⟨_, _, hr, .inl ⟨rfl, ⟨hI _ _ _ hi3 (hst none W3), hl4, hk4⟩, hk5⟩⟩
        | ret =>
          obtain ⟨hk3, hi3⟩ := hp
          obtain ⟨hr, hl4, hk4, hk5⟩ := fin (some .ret) W3 hk3
          exact ⟨_, _, hr, .inr (.inl ⟨rfl, ⟨.ret, hIx _ _ _ hi3 (hst _ W3), hl4, hk4⟩, hk5⟩)⟩
        | exit id =>
          obtain ⟨hk3, hi3⟩ := hp
          obtain ⟨hr, hl4, hk4, hk5⟩ := fin (some (.exit id)) W3 hk3
          exact ⟨_, _, hr, .inr (.inl ⟨rfl, ⟨.exit id, hIx _ _ _ hi3 (hst _ W3), hl4, hk4⟩, hk5⟩)⟩
        | goto t =>
          obtain ⟨hk3, hi3⟩ := hp
          obtain ⟨hr, hl4, hk4, hk5⟩ := fin (some (.goto t)) W3 hk3
          exact ⟨_, _, hr, .inr (.inl ⟨rfl, ⟨.goto t, hIx _ _ _ hi3 (hst _ W3), hl4, hk4⟩, hk5⟩)⟩
        | panic ch =>
          obtain ⟨hdf, hk3, hip⟩ := hp
          exact ⟨hdf, .inr (.inr ⟨ch, rfl, hip, hk3.heap (by omega) hd2⟩)⟩
        | outgrown => exact hp.elim
      | _ => exact hp.elim

variable {ops : Array Oper} {Q : Exit → Act → World → Prop} {N : FS} {L : List (Nat × Value)} {w w0 : World} {S : Nat → Prop} {H : List Ent} {ro : Option Nat}
/-! ### A yield -/
/-- Operations of a plain region, yields let in. -/
structure wpSI (P : Program) (ro : Option Nat) (ops : Array Oper) (Q : Exit → Act → World → Prop) (l : List Oper) (N : FS) (L : List (Nat × Value)) (w : World) : Prop where
  go : ∀ a, Fr N L a → wpListIn (FR ro) 9 P ops Q l a w
structure InK (P : Program) (ro : Option Nat) (ops : Array Oper) (Q : Exit → Act → World → Prop) (l : List Oper) (a : Act) (w : World) : Prop where
  go : wpListIn (FR ro) 9 P ops Q l a w
theorem list_in_app (hQ : NL Q) {l2 : List Oper} : ∀ (l : List Oper), l.all noDefer = true → ∀ (a : Act) (w : World), wpList P ops (Exit.then (InK P ro ops Q l2) Q) l a w → wpListIn (FR ro) 9 P ops Q (l ++ l2) a w
  | [], _, a, w, h => h.go
  | o :: l, hd, a, w, h => by
    simp only [List.all_cons, Bool.and_eq_true] at hd
    unfold wpList at h
    rw [List.cons_append]
    unfold wpListIn
    split
    · rename_i hw
      rw [if_pos hw] at h
      rcases h with h | ⟨_, a0, w0, h⟩
      · have h1 := op_in (ro := ro) (n := 9) (Q := Exit.then (InK P ro ops Q l2) Q) hd.1 h
        have h2 := Oper.wpIn_mono (fun a w h => list_in_app hQ l hd.2 a w h) h1
        refine ⟨h2.1, ?_⟩
        have h3 := h2.2
        generalize (o.semAt (FR ro).round a.eval).run P w = r at *
        cases r with
        | ok x w' =>
          cases x <;> simp only [Oper.uponIn] at h3 ⊢ <;> exact h3
        | halt x w' => cases x <;> simp only [Oper.uponIn] at h3 ⊢; exact h3
      · exact (hQ.no _ _ h).elim
    · rename_i hw
      rw [if_neg hw] at h
      exact ⟨fun _ _ => trivial, list_in_app hQ l hd.2 _ _ h⟩
theorem wpC_regionY {id : Nat} {l : List Oper} (m : Nat) (hQ : NL Q) (hd : (l.take m).all noDefer = true) (k : wpS P l.toArray (Exit.then (InK P ro l.toArray Q (l.drop m)) Q) (l.take m) N L w) : wpC P ro (.region id l.toArray false) Q N L w := .mk fun a hF => by
  refine wpo_of_in (n := 9) (wpIn_region_lit ?_)
  have := list_in_app hQ (l.take m) hd a w (k.go a hF)
  rwa [List.take_append_drop] at this
theorem QH_Y {l : List Oper} (k : wpSI P ro ops Q l N L w) : QH (Exit.then (InK P ro ops Q l) Q) .normal N L w := ⟨fun a hF => ⟨k.go a hF⟩⟩
theorem wpSI_rest {l : List Oper} (hQ : NL Q) (hd : l.all noDefer = true) (k : wpS P ops Q l N L w) : wpSI P ro ops Q l N L w := ⟨fun a hF => list_in hQ l hd a w (k.go a hF)⟩
theorem wpSI_yield {dn : Nat} {ty : TypeId} {pos : String} {af : Array Edge} {g : Option (Nat × Bool)} {x : Operand} {l0 : Nat} {xs : List Operand} {ts : Array TypeId} {vs : List Value} {R : Ending → World → Prop} {rest : List Oper}
    (hg : wantB ops L g = some true) (hN : Nat.ble (dn + 1) N.n = true) (hx : ev L x = some (.func (.yield l0) #[] #[])) (ha : evs L xs = some vs)
    (hy : YieldAt Fence.wide 8 P l0 vs.toArray w R) (k : ∀ e w', R e w' → (∃ v, e = .returned v ∧ wpSI P ro ops Q rest N ((dn, v) :: L) w') ∨ (∃ c, e = .panicked c ∧ QH Q (.panic c) N L w')) :
    wpSI P ro ops Q (⟨some dn, .call { callee := .value x, args := xs.toArray, argTypes := ts }, ty, pos, af, g⟩ :: rest) N L w := ⟨fun a hF => by
  unfold wpListIn
  rw [if_pos (wanted_of hF hg)]
  refine ⟨fun _ _ => trivial, ?_⟩
  rw [Oper.semAt_plain (FR ro) _ _ (by intro c hc; cases hc)]
  have e1 : xs.toArray.map a.eval = vs.toArray := by simp [hF.agr.map ha]
  obtain ⟨fn, tmps, assign, body, hrun, hround⟩ := hy
  have e2 : (#[] : Array Value) ++ vs.toArray = vs.toArray := by simp
  simp only [execOp, resolve, Sem.run_bind, e1, hF.eval hx, Deferred.ofValue, Sem.run_pure, Result.andThen_ok, invoke, e2, hrun, Oper.uponIn]
  refine ⟨fun h => (by cases h), ?_⟩
  have hr2 : RoundIn (FR ro) 8 P l0 fn tmps assign body w R := hround
  refine hr2.mono fun e w' hR => ?_
  rcases k e w' hR with ⟨v, rfl, h1⟩ | ⟨c, rfl, h1⟩
  · exact h1.go _ (hF.put hN v)
  · exact h1.go _ hF⟩

/-! ### Old blocks whose cells are known -/
theorem yv_load_ob {R : World → Prop} {d : Option Nat} {ty : TypeId} {pos : String} {af : Array Edge} {g : Option (Nat × Bool)} {x : Operand} {t : TypeId} {b o : Nat} {cs : Array Value} {T : TypeId} {fr : Nat × Nat} {v : Value} {S' : Nat → Prop} (hs0 : ScC P t) (hx : ev L x = some (.pointer (some ⟨b, o, none⟩))) (hR : RW R S' w) (hS : St0 S w0 w H) (hb : S' b) (hb' : S b) (hh : w0.heap[b]? = some (.cells cs T fr)) (hc : Seg cs.toList o 1 [v]) : Yv P L R ⟨d, .load t x, ty, pos, af, g⟩ v :=
  yv_load_old hs0 hx hR hS hb hb' (by
    rw [cell_of_row w0 b o cs T fr hh]
    have h1 := hc.spec.1
    have h2 : ((cs.toList.drop o).take 1)[0]? = some v := by rw [← h1]; rfl
    simpa using h2)
end
end Go.Proofs.YtofheinbbefbcaaDoor
/- A walk by laws alone. Sixth part: a range over a function, by lists of slots and blocks. -/
namespace Go.Proofs.YtofheinbbefbcaaDoor
open Go Go.RowKit
set_option maxRecDepth 100000

section
variable {P : Program} {ops : Array Oper} {Q : Exit → Act → World → Prop} {N : FS} {L : List (Nat × Value)} {w w0 : World} {S : Nat → Prop} {H H' : List Ent} {ro : Option Nat}

/-- While a range is under way: the function's own blocks lie off the iterator's (from M to E). -/
structure Rnd (w0 : World) (M E : Nat) (A : World) (H : List Ent) : Prop where
  st : St0 All w0 A H
  off : ∀ e ∈ H, ∀ k, e.occ k → k < M ∨ E ≤ k
theorem Rnd.keep {M E : Nat} {A B : World} (h : Rnd w0 M E A H) (hM : w0.heap.size ≤ M) (hk : KeepB (fun b => b < M ∨ E ≤ b) A B) : Rnd w0 M E B H := by
  refine ⟨⟨⟨hk.os.trans h.st.base.os, hk.tape.trans h.st.base.tape, hk.output.trans h.st.base.output, Nat.le_trans h.st.size hk.size, fun b hb _ => ?_⟩, fun e he => Ent.ok_keep (h.st.ok e he) hk.size (fun k hx => hk.block k (h.st.rng e he k hx).1 (h.off e he k hx)), fun e he k hx => ⟨Nat.lt_of_lt_of_le (h.st.rng e he k hx).1 hk.size, (h.st.rng e he k hx).2⟩, h.st.dis⟩, h.off⟩
  exact (hk.block b (Nat.lt_of_lt_of_le hb h.st.size) (.inl (by omega))).trans (h.st.base.block b hb trivial)
/-- What a round leaves as it is. -/
def staysR (n0 M E : Nat) (b : Nat) : Prop := b < n0 ∨ (M ≤ b ∧ b < E)
/-- A round begins. -/
theorem Rnd.begin {M E : Nat} {A A1 A2 : World} {Hn : List Ent} (h : Rnd w0 M E A H) (hM : w0.heap.size ≤ M) (hE : E ≤ A.heap.size) (hn : St0 All A A1 Hn) (hk : KeepB (fun b => b < M ∨ E ≤ b) A1 A2) : St0 (staysR w0.heap.size M E) A2 A2 (Hn ++ H) ∧ Below w0.heap.size w0 A2 := by
  have hz : A.heap.size ≤ A1.heap.size := hn.size
  have hA1 : Rnd w0 M E A1 H := h.keep hM (hn.base.sub fun _ _ _ => trivial)
  have hA2 := hA1.keep hM hk
  have hnk : ∀ e ∈ Hn, ∀ k, e.occ k → k < A1.heap.size ∧ A.heap.size ≤ k := fun e he k hx => ⟨(hn.rng e he k hx).1, Nat.le_of_not_lt fun hlt => (hn.rng e he k hx).2 hlt trivial⟩
  refine ⟨⟨KeepB.refl _ _, fun e he => ?_, fun e he k hx => ?_, ?_⟩, hA2.st.pure⟩
  · rcases List.mem_append.1 he with he | he
    · exact Ent.ok_keep (hn.ok e he) hk.size (fun k hx => hk.block k (hnk e he k hx).1 (.inr (by have := (hnk e he k hx).2; omega)))
    · exact hA2.st.ok e he
  · rcases List.mem_append.1 he with he | he
    · have := hnk e he k hx
      refine ⟨Nat.lt_of_lt_of_le this.1 hk.size, fun _ => ?_⟩
      have := h.st.size
      unfold staysR
      omega
    · have h1 := hA2.st.rng e he k hx
      have h2 := hA2.off e he k hx
      have h3 : w0.heap.size ≤ k := Nat.le_of_not_lt fun hlt => h1.2 hlt trivial
      exact ⟨h1.1, fun _ => by unfold staysR; omega⟩
  · refine List.pairwise_append.2 ⟨hn.dis, h.st.dis, fun e he e' he' k hx hx' => ?_⟩
    have h1 := (hnk e he k hx).2
    have h2 := (h.st.rng e' he' k hx').1
    omega
/-- A round ends. -/
theorem Rnd.end_ {M E : Nat} {A2 B : World} (hb : Below w0.heap.size w0 A2) (hE : E ≤ A2.heap.size) (h : St0 (staysR w0.heap.size M E) A2 B H) (hs : List.Sublist H' H) : Rnd w0 M E B H' := by
  have hz : w0.heap.size ≤ A2.heap.size := hb.size
  refine ⟨⟨⟨h.base.os.trans hb.os, h.base.tape.trans hb.tape, h.base.output.trans hb.output, Nat.le_trans hz h.size, fun b hlt _ => ?_⟩, fun e he => h.ok e (hs.subset he), fun e he k hx => ?_, h.dis.sublist hs⟩, fun e he k hx => ?_⟩
  · exact (h.base.block b (by omega) (.inl hlt)).trans (hb.block b hlt)
  · have h1 := h.rng e (hs.subset he) k hx
    exact ⟨h1.1, fun hlt _ => h1.2 (by omega) (.inl hlt)⟩
  · have h1 := h.rng e (hs.subset he) k hx
    rcases Nat.lt_or_ge k A2.heap.size with hlt | hge
    · have := h1.2 hlt
      unfold staysR at this
      omega
    · exact .inr (by omega)

theorem put_frame {ps : List Tmp} {vs : List Value} {tm : Array Value} : ∀ {L : List (Nat × Value)}, Fr N L { tmps := tm, defers := N.d } → (ps.all fun p => Nat.ble (p + 1) N.n) = true → Fr N ((ps.zip vs).foldl (fun L p => p :: L) L) { tmps := (ps.zip vs).foldl (fun t (p : Tmp × Value) => t.setIfInBounds p.1 p.2) tm, defers := N.d } := by
  induction ps generalizing vs tm with
  | nil => intro L h _; simpa using h
  | cons p ps ih =>
    intro L h hp
    cases vs with
    | nil => simpa using h
    | cons v vs =>
      simp only [List.all_cons, Bool.and_eq_true] at hp
      simp only [List.zip_cons_cons, List.foldl_cons]
      exact ih (h.put hp.1 v) hp.2

/-- Behind the assignments of a round's variables. -/
structure AsgK (P : Program) (l : Nat) (body : Code) (N : FS) (w0 : World) (M E : Nat) (H : List Ent) (A : World) (QB : World → Exit → Act → World → Prop) (a1 : Act) (A1 : World) : Prop where
  go : ∃ L1 Hn, Fr N L1 a1 ∧ St0 All A A1 Hn ∧ ∀ A2, St0 (staysR w0.heap.size M E) A2 A2 (Hn ++ H) → Below w0.heap.size w0 A2 → E ≤ A2.heap.size → wpC P (some l) body (QB A2) N L1 A2
theorem QH_asg {l : Nat} {body : Code} {M E : Nat} {A A1 : World} {QB : World → Exit → Act → World → Prop} {Q' : Exit → Act → World → Prop} {Hn : List Ent} (hS : St0 All A A1 Hn)
    (k : ∀ A2, St0 (staysR w0.heap.size M E) A2 A2 (Hn ++ H) → Below w0.heap.size w0 A2 → E ≤ A2.heap.size → wpC P (some l) body (QB A2) N L A2) : QH (Exit.then (AsgK P l body N w0 M E H A QB) Q') .normal N L A1 := ⟨fun a hF => ⟨L, Hn, hF, hS, k⟩⟩

/-- The law. -/
theorem wpC_range {α X : Type} {g : Operand} {ps : Array Tmp} {assign body : Code} {gf : Nat} {lb : Array Value} (hg : ev L g = some (.func (.func gf) #[] lb)) (eg : enterB P gf = true)
    {encs : α → List Value} {xs : List α} {M : Nat} (hit : IterP P gf lb (fun x => (encs x).toArray) xs w0.heap.size M w) (hM : w0.heap.size ≤ M ∧ M ≤ w.heap.size) (hps : ∀ x, (encs x).length = ps.size) (hpn : (ps.toList.all fun p => Nat.ble (p + 1) N.n) = true)
    (Hk : Nat → X → List Ent) (Jk : Nat → X → Prop) (Hx : Code → X → List Ent) (Jx : Code → X → Prop) (Ip : List PanicEntry → Prop)
    (x0 : X) (h0 : Rnd w0 M (w.heap.size + 2) w (Hk 0 x0)) (j0 : Jk 0 x0)
    (hround : ∀ l k e x A, xs[k]? = some e → Jk k x → w.heap.size + 2 ≤ A.heap.size → Rnd w0 M (w.heap.size + 2) A (Hk k x) → St0 All A A [] →
      wpC P (some l) assign (Exit.then (AsgK P l body ⟨N.n, []⟩ w0 M (w.heap.size + 2) (Hk k x) A (fun A2 => roundEndP (staysR w0.heap.size M (w.heap.size + 2)) (fun B => ∃ x', Rnd w0 M (w.heap.size + 2) B (Hk (k + 1) x') ∧ Jk (k + 1) x') (fun c B => ∃ x', Rnd w0 M (w.heap.size + 2) B (Hx c x') ∧ Jx c x') (fun c B => Below w0.heap.size w0 B ∧ Ip c) A2)) (fun _ _ _ => False))
        ⟨N.n, []⟩ ((ps.toList.zip (encs e)).foldl (fun L p => p :: L) L) A)
    (hdone : ∀ x A, Jk xs.length x → St0 All w0 A (.obj w.heap.size (.deferred (some [])) :: Hk xs.length x) → QH Q .normal ⟨N.n, { target := .collected w.heap.size, args := #[] } :: N.d⟩ L A)
    (hstop : ∀ c x A, Jx c x → St0 All w0 A (.obj w.heap.size (.deferred (some [])) :: Hx c x) → wpC P none c Q ⟨N.n, { target := .collected w.heap.size, args := #[] } :: N.d⟩ L A)
    (hpan : ∀ c A, Ip c → St0 All w0 A [.obj w.heap.size (.deferred (some []))] → QH Q (.panic c) ⟨N.n, { target := .collected w.heap.size, args := #[] } :: N.d⟩ L A) :
    wpC P none (.rangeFunc g ps assign body) Q N L w := ⟨fun a hF => by
  have hmark : ∀ A H1, Rnd w0 M (w.heap.size + 2) A H1 → A.heap[w.heap.size]? = some (.deferred (some [])) → St0 All w0 A (.obj w.heap.size (.deferred (some [])) :: H1) := fun A H1 hR hd => by
    refine ⟨hR.st.base, fun e he => ?_, fun e he k hx => ?_, List.pairwise_cons.2 ⟨fun e he k hx hx' => ?_, hR.st.dis⟩⟩
    · rcases List.mem_cons.1 he with rfl | he
      · exact hd
      · exact hR.st.ok e he
    · rcases List.mem_cons.1 he with rfl | he
      · obtain rfl : k = w.heap.size := hx
        exact ⟨(Array.getElem?_eq_some_iff.1 hd).1, fun hlt => (by omega)⟩
      · exact hR.st.rng e he k hx
    · obtain rfl : k = w.heap.size := hx
      have := hR.off e he _ hx'
      omega
  have hF' : ∀ A : World, Fr ⟨N.n, { target := .collected w.heap.size, args := #[] } :: N.d⟩ L { a with defers := { target := .collected w.heap.size, args := #[] } :: a.defers } := fun A => ⟨hF.size, by rw [hF.defers], hF.at_⟩
  refine range_o (n0 := w0.heap.size) (M := M) (hF.eval hg) (fun args w => callFunc_enter eg args) hit hM.1 hM.2 (fun x => by simp [hps x])
    (fun k A => ∃ x, Rnd w0 M (w.heap.size + 2) A (Hk k x) ∧ Jk k x) (fun c A => ∃ x, Rnd w0 M (w.heap.size + 2) A (Hx c x) ∧ Jx c x) (fun c A => Below w0.heap.size w0 A ∧ Ip c)
    (fun k A B h hk => h.imp fun x h => ⟨h.1.keep hM.1 hk, h.2⟩) (fun c A B h hk => h.imp fun x h => ⟨h.1.keep hM.1 hk, h.2⟩)
    (fun c A B h hk => ⟨h.1.trans (hk.to_below h.1.size (fun _ hb => .inl (by omega))), h.2⟩) ⟨x0, h0, j0⟩ ?_ ?_ ?_ ?_
  · rintro l k e A hxk ⟨x, hR, hJ⟩ hsz
    have hfr : Fr ⟨N.n, []⟩ ((ps.toList.zip (encs e)).foldl (fun L p => p :: L) L) { tmps := (ps.zip (encs e).toArray).foldl (fun t (p, v) => t.setIfInBounds p v) a.tmps, defers := [] } := by
      have := put_frame (N := ⟨N.n, []⟩) (ps := ps.toList) (vs := encs e) (tm := a.tmps) (L := L) ⟨hF.size, rfl, hF.at_⟩ hpn
      have e1 : (ps.zip (encs e).toArray) = (ps.toList.zip (encs e)).toArray := by
        rw [← Array.toList_inj]; simp
      rw [e1]
      simpa using this
    refine wpo_mono ((hround l k e x A hxk hJ hsz hR (St0.start _ _)).go _ hfr) ?_
    rintro ex a1 A1 hp
    cases ex with
    | normal =>
      obtain ⟨L1, Hn, hF1, hSn, hbody⟩ := hp.go
      refine ⟨hSn.base, fun A2 hk _ => ?_⟩
      have hk' : KeepB (fun b => b < M ∨ w.heap.size + 2 ≤ b) A1 A2 := hk.sub (fun b _ h => by omega)
      obtain ⟨h1, h2⟩ := hR.begin hM.1 hsz hSn hk'
      exact (hbody A2 h1 h2 (by have := hSn.size; have := hk.size; omega)).go _ hF1
    | _ => exact hp.elim
  · rintro A ⟨x, hR, hJ⟩ hd
    exact (hdone x A hJ (hmark _ _ hR hd)).go _ (hF' A)
  · rintro c A ⟨x, hR, hJ⟩ hd
    exact (hstop c x A hJ (hmark _ _ hR hd)).go _ (hF' A)
  · rintro c A ⟨hb, hc⟩ hd
    have hR : Rnd w0 M (w.heap.size + 2) A [] := ⟨⟨KeepB.of_below hb (fun _ hk _ => hk), fun _ h => (by cases h), fun _ h => (by cases h), List.Pairwise.nil⟩, fun _ h => (by cases h)⟩
    exact (hpan c A hc (hmark _ _ hR hd)).go _ (hF' A)⟩

/-! ### The ends of a round -/
theorem NL.round {S' : Nat → Prop} {I' : World → Prop} {Ix : Code → World → Prop} {Ip : List PanicEntry → World → Prop} {A : World} : NL (roundEndP S' I' Ix Ip A) := ⟨fun _ _ h => h⟩
theorem NL.body {fn : Func} {R : Ending → World → Prop} (h : ∀ w, ¬ R .outgrown w) : NL (bodyO P fn R) := ⟨fun _ w hw => h w hw⟩
theorem NL.false : NL (fun _ _ _ => False) := ⟨fun _ _ h => h⟩
theorem PF.round {S' : Nat → Prop} {I' : World → Prop} {Ix : Code → World → Prop} {Ip : List PanicEntry → World → Prop} {A : World} : PF (roundEndP S' I' Ix Ip A) := ⟨fun c a d v w h => ⟨(put_defers a d v) ▸ h.1, h.2⟩⟩
theorem QH_round {X : Type} {Hk : X → List Ent} {Jk : X → Prop} {Ix : Code → World → Prop} {Ip : List PanicEntry → World → Prop} {M E : Nat} {A2 B : World} (hb : Below w0.heap.size w0 A2) (hE : E ≤ A2.heap.size) (hS : St0 (staysR w0.heap.size M E) A2 B H) (x' : X) (hs : List.Sublist (Hk x') H) (hJ : Jk x') :
    QH (roundEndP (staysR w0.heap.size M E) (fun B => ∃ x', Rnd w0 M E B (Hk x') ∧ Jk x') Ix Ip A2) .normal N L B := ⟨fun _ _ => ⟨hS.base, x', Rnd.end_ hb hE hS hs, hJ⟩⟩
theorem PosO.set {b : Nat} {o o' : Obj} (hp : Pos H (.obj b o) H' (.obj b o')) (hS : St0 S w0 w H) : St0 S w0 (w.putObj b o') H' := by
  obtain ⟨i, hi, rfl⟩ := hp.set
  have hok : w.heap[b]? = some o := hS.ok _ (List.mem_of_getElem? hi)
  have hk : KeepB (fun k => k ≠ b) w (w.putObj b o') := (KeepB.refl _ _).putObj _ _ (by simp)
  exact hS.change i hi hk.size ⟨hk.os, hk.tape, hk.output⟩ (fun k h1 h2 => hk.block k h2 (fun h0 => h1 h0)) (World.putObj_heap_same (Array.getElem?_eq_some_iff.1 hok).1) (fun k h0 => .inl h0)
theorem bodyO_shut {fn : Func} {R : Ending → World → Prop} {e : Exit} {a : Act} {b : Nat} {D : List Deferred} (ha : a.defers = { target := .collected b, args := #[] } :: D) (hb : w.heap[b]? = some (.deferred (some []))) (he : e = .ret ∨ e = .normal ∨ ∃ c, e = .panic c) (h : bodyO P fn R e { a with defers := D } (w.putObj b (.deferred none))) : bodyO P fn R e a w := by
  rcases he with rfl | rfl | ⟨c, rfl⟩
  · obtain ⟨w', h1, h2⟩ := h; exact ⟨w', by rw [ha]; exact ⟨b, _, rfl, run_takeDeferred hb, h1⟩, h2⟩
  · obtain ⟨w', h1, h2⟩ := h; exact ⟨w', by rw [ha]; exact ⟨b, _, rfl, run_takeDeferred hb, h1⟩, h2⟩
  · obtain ⟨w', h1, h2⟩ := h; exact ⟨w', by rw [ha]; exact ⟨b, _, rfl, run_takeDeferred hb, h1⟩, h2⟩
theorem QH_shut {fn : Func} {R : Ending → World → Prop} {e : Exit} {b m : Nat} {D : List Deferred} (he : e = .ret ∨ e = .normal ∨ ∃ c, e = .panic c) (hS : St0 S w0 w H) (hp : Pos H (.obj b (.deferred (some []))) H' (.obj b (.deferred none))) (k : ∀ w', St0 S w0 w' H' → QH (bodyO P fn R) e ⟨m, D⟩ L w') :
    QH (bodyO P fn R) e ⟨m, { target := .collected b, args := #[] } :: D⟩ L w := ⟨fun a hF => by
  obtain ⟨i, hi, _⟩ := hp.set
  exact bodyO_shut hF.defers (hS.ok _ (List.mem_of_getElem? hi)) he ((k _ (PosO.set hp hS)).go _ ⟨hF.size, rfl, hF.at_⟩)⟩
end
end Go.Proofs.YtofheinbbefbcaaDoor
/- A walk by laws alone. Seventh part: rows that grow, slices laid out, jumps back, '==' of structs. -/
namespace Go.Proofs.YtofheinbbefbcaaDoor
open Go Go.RowKit
set_option maxRecDepth 100000

section
variable {P : Program} {ro : Option Nat} {Q : Exit → Act → World → Prop} {a : Act} {w : World}
theorem wpo_scope {c rest : Code} (l : Nat) (J : Act → World → Prop) (μ : Act → World → Nat) (hf : findLabel c l = some rest)
    (first : wpo P none c (Exit.jump l J Q) a w)
    (pass : ∀ a w, J a w → wpo P none rest (Exit.jump l (fun a' w' => J a' w' ∧ μ a' w' < μ a w) Q) a w) : wpo P none (.scope c) Q a w := by
  intro b k cs hb hreal
  have hI : ∀ m m', StepsIn (Machine.fenced P Fence.wide) P m m' ↔ Steps P m m' := fun _ _ => stepsIn_wide
  have hg : gotoIn l (.inScope c :: k) = some (.code rest :: .inScope c :: k) := by simp [gotoIn, hf]
  have key : ∀ n a w, μ a w = n → J a w → ∃ e a' w', Q e a' w' ∧ Arrives P (lone (b.at a (.code rest :: .inScope c :: k)) cs w) b k cs e a' w' := by
    intro n
    induction n using Nat.strongRecOn with
    | _ n ih =>
      intro a w hn hJ
      obtain ⟨e, a1, w1, hq, harr⟩ := pass a w hJ b (.inScope c :: k) cs hb hreal
      rw [Frame.atR_of_none hb, arrivesIn_iff hI hb] at harr
      cases e with
      | normal => exact ⟨.normal, a1, w1, hq, Steps.trans harr (.one step_inScope)⟩
      | exit id => exact ⟨.exit id, a1, w1, hq, fun k' hk => harr k' (by simp [exitTo, hk])⟩
      | goto l' =>
        obtain ⟨rfl, hJ', hlt⟩ := hq
        obtain ⟨e2, a2, w2, hq2, harr2⟩ := ih _ (by omega) a1 w1 rfl hJ'
        exact ⟨e2, a2, w2, hq2, .of_steps (harr _ hg) harr2⟩
      | ret => exact ⟨_, a1, w1, hq, harr⟩
      | panic ch => exact ⟨_, a1, w1, hq, harr⟩
      | outgrown => exact ⟨_, a1, w1, hq, harr⟩
  obtain ⟨e, a1, w1, hq, harr⟩ := first b (.inScope c :: k) cs hb hreal
  rw [Frame.atR_of_none hb, arrivesIn_iff hI hb] at harr
  rw [Frame.atR_of_none hb]
  simp only [arrivesIn_iff hI hb]
  cases e with
  | normal => exact ⟨.normal, a1, w1, hq, .head step_scope (Steps.trans harr (.one step_inScope))⟩
  | exit id => exact ⟨.exit id, a1, w1, hq, fun k' hk => .head step_scope (harr k' (by simp [exitTo, hk]))⟩
  | goto l' =>
    obtain ⟨rfl, hJ'⟩ := hq
    obtain ⟨e2, a2, w2, hq2, harr2⟩ := key _ a1 w1 rfl hJ'
    exact ⟨e2, a2, w2, hq2, .of_steps (.head step_scope (harr _ hg)) harr2⟩
  | ret => exact ⟨_, a1, w1, hq, .of_steps (.one step_scope) harr⟩
  | panic ch => exact ⟨_, a1, w1, hq, .of_steps (.one step_scope) harr⟩
  | outgrown => exact ⟨_, a1, w1, hq, .of_steps (.one step_scope) harr⟩

variable {N : FS} {L : List (Nat × Value)} {w0 : World} {S : Nat → Prop} {H H' : List Ent}
theorem QH_jmp_ret {l : Nat} {J : Act → World → Prop} (k : QH Q .ret N L w) : QH (Exit.jump l J Q) .ret N L w := ⟨k.go⟩
theorem NL.jump {l : Nat} {J : Act → World → Prop} (h : NL Q) : NL (Exit.jump l J Q) := ⟨h.no⟩
theorem PF.jump {l : Nat} {J : Act → World → Prop} (h : PF Q) : PF (Exit.jump l J Q) := ⟨fun c a d v w hq => h.put c a d v w hq⟩

variable {ops : Array Oper} {rest : List Oper} {dn : Nat} {ty : TypeId} {pos : String} {af : Array Edge} {g : Option (Nat × Bool)}
/-! ### Rows -/
theorem row_block {v : Value} {e size n : Nat} {xs : List Value} (h : w.ownsRow 0 e size v n xs) {k : Nat} (hk : v.ownBlock = some k) : k < w.heap.size := (h.lt k hk).2
/-- append onto a row of one's own. -/
theorem wpS_append {t e size bytes n m c n' : Nat} {z : Value} {s x : Operand} {v : Value} {A : Option Addr} {xs news : List Value} {Hf : Value → List Ent} (E : Elem P t e z size bytes)
    (hg : wantB ops L g = some true) (hN : Nat.ble (dn + 1) N.n = true) (hs : ev L s = some v) (hx : ev L x = some (.slice A m c)) (hS : St0 S w0 w H) (hH : ∀ v', Pos H (.row v e size n xs) (Hf v') (.row v' e size n' (xs ++ news)))
    (hr : Rd w A news) (hlen : news.length = m * size) (h1 : ∀ u ∈ news, u.oneCell' = true) (hn : n' = n + m) (h63 : n' ≤ maxLen) (hbytes : n' * bytes ≤ 140737488355328)
    (k : ∀ A' c' w', n' ≤ c' → c' ≤ maxLen → St0 S w0 w' (Hf (.slice A' n' c')) → wpS P ops Q rest N ((dn, .slice A' n' c') :: L) w') :
    wpS P ops Q (⟨some dn, .call { callee := .builtin .append, args := #[s, x], argTypes := #[t, t] }, ty, pos, af, g⟩ :: rest) N L w := by
  subst hn
  obtain ⟨i, hi, _⟩ := (hH v).set
  have hown : w.ownsRow 0 e size v n xs := hS.ok _ (List.mem_of_getElem? hi)
  obtain ⟨v', w', hrun, h2, h3, h4⟩ := run_append_rd (P := P) E ty hown c hlen hr h1 h63 hbytes (Nat.zero_le _)
  obtain ⟨A', c', rfl, hc1, hc2⟩ := own_slice h2
  obtain ⟨j, hj, hHj⟩ := (hH (.slice A' (n + m) c')).set
  refine wpS_run hg rfl hN (fun ρ hρ => ?_) (k A' c' w' hc1 hc2 ?_)
  · simp only [execOp, resolve, invoke, builtin, Sem.run_bind, Sem.run_pure, Result.andThen_ok, List.map_toArray, List.map_cons, List.map_nil, hρ s v hs, hρ x _ hx, hrun]
  · rw [hHj]
    refine hS.change j hj h3.size ⟨h3.os, h3.tape, h3.output⟩ (fun k h5 h6 => h3.block k h6 (fun h7 => h5 h7.symm)) h2 (fun k hk => ?_)
    rcases h4 with h4 | h4
    · left; show v.ownBlock = some k; rw [← h4]; exact hk
    · right
      have h5 : (Value.slice A' (n + m) c').ownBlock = some k := hk
      rw [h4] at h5
      injection h5 with h5
      subst h5
      exact ⟨Nat.le_refl _, row_block h2 h4⟩
/-- An empty slice that is none of nil. -/
theorem wpS_slice0 {t e size : Nat} (ht0 : ElC P t e size) (hg : wantB ops L g = some true) (hN : Nat.ble (dn + 1) N.n = true) (hS : St0 S w0 w H)
    (k : ∀ b w', St0 S w0 w' (.row (.slice (some ⟨b, 0, none⟩) 0 0) e size 0 [] :: H) → Below w.heap.size w w' → wpS P ops Q rest N ((dn, .slice (some ⟨b, 0, none⟩) 0 0) :: L) w') :
    wpS P ops Q (⟨some dn, .buildSlice t 0 #[], ty, pos, af, g⟩ :: rest) N L w := by
  have hb : Below w.heap.size w (w.alloc (.cells #[] e)) := (Below.refl _ _).alloc (Nat.le_refl _) _
  refine wpS_run hg rfl hN (fun ρ hρ => ?_) (k w.heap.size (w.alloc (.cells #[] e)) (hS.add hb ⟨by simp, .inr ⟨w.heap.size, 0, #[], rfl, Nat.zero_le _, heap_alloc_new w _, Nat.le_refl _, by simp, by simp, by simp⟩⟩ (fun k hk => ?_)) hb)
  · have ht := ht0.h
    unfold elemOfSlice at ht
    split at ht
    · rename_i e' hu
      split at ht
      · rename_i i hi
        simp only [Option.some.injEq, Prod.mk.injEq] at ht
        obtain ⟨rfl, rfl⟩ := ht
        have h0 : Array.range 0 = #[] := Array.eq_empty_of_size_eq_zero (by simp)
        simp [execOp, Instr.buildSlice, run_underlying hu, sizeOf, typeInfo, hi, Instr.fill, newRow, h0]
      · cases ht
    · cases ht
  · have : k = w.heap.size := by have h5 : (Value.slice (some ⟨w.heap.size, 0, none⟩) 0 0).ownBlock = some k := hk; injection h5 with h5; exact h5.symm
    subst this; simp
theorem wpS_sliceN {t e size n : Nat} {ps : List (Nat × Operand)} {vs cells zs : List Value} {z : Value} {ie : TypeInfo} (hg : wantB ops L g = some true) (hN : Nat.ble (dn + 1) N.n = true) (hu : P.underlying t = some (.slice e)) (hie : P.info? e = some ie) (hz : ie.zero = some z)
    (hp : evs L (ps.map (·.2)) = some vs) (hsm : ¬ n * ie.size > 2 ^ 24) (hp0 : ¬ n * ie.size = 0)
    (hfill : Instr.fill (fun i => some (i * ie.size, ie.size)) ((Array.range (n * ie.size)).map (z.cells[· % z.cells.size]!)) ((ps.map (·.1)).zip vs) = some cells.toArray) (hS : St0 S w0 w H)
    (k : ∀ b w', St0 S w0 w' (.box b cells e :: H) → Below w.heap.size w w' → wpS P ops Q rest N ((dn, .slice (some ⟨b, 0, none⟩) n n) :: L) w') :
    wpS P ops Q (⟨some dn, .buildSlice t n ps.toArray, ty, pos, af, g⟩ :: rest) N L w := by
  refine wpS_run hg rfl hN (fun ρ hρ => ?_) (k w.heap.size (w.alloc (.cells cells.toArray e (0, 0))) (hS.box cells e) ((Below.refl _ _).alloc (Nat.le_refl _) _))
  have e1 : ∀ (ps : List (Nat × Operand)) (vs : List Value), evs L (ps.map (·.2)) = some vs → ps.map (fun (i, x) => (i, ρ x)) = (ps.map (·.1)).zip vs := by
    intro ps
    induction ps with
    | nil => intro vs h; simp
    | cons p ps ih =>
      intro vs h
      obtain ⟨i, x⟩ := p
      simp only [List.map_cons, evs] at h
      cases h1 : ev L x with
      | none => simp [h1] at h
      | some v =>
        cases h2 : evs L (ps.map (·.2)) with
        | none => simp [h1, h2] at h
        | some us =>
          simp only [h1, h2, Option.some.injEq] at h
          subst h
          simp [ih us h2, hρ x v h1]
  have hl : (ps.toArray.map fun (i, x) => (i, ρ x)) = ((ps.map (·.1)).zip vs).toArray := by rw [← e1 ps vs hp]; simp
  have hrun := run_buildSlice (P := P) w t e n ((ps.map (·.1)).zip vs).toArray cells.toArray ie z hu hie hz hsm hp0 (by simpa using hfill)
  simp only [execOp, hl, Sem.run_bind, hrun, Result.andThen_ok, Sem.run_pure]
theorem St0.box_rd {b T : Nat} {cs : List Value} (hS : St0 S w0 w H) (hH : Has H (.box b cs T)) : Rd w (some ⟨b, 0, none⟩) cs := fun j u hj => by
  have hok : w.heap[b]? = some (.cells cs.toArray T (0, 0)) := hS.ok _ hH.mem
  exact ⟨b, 0, rfl, (Array.getElem?_eq_some_iff.1 hok).1, by rw [Nat.zero_add, box_cell (T := T) hok]; exact hj⟩
theorem St0.row_rd {A : Option Addr} {n c e size : Nat} {xs : List Value} (hS : St0 S w0 w H) (hH : Has H (.row (.slice A n c) e size n xs)) : Rd w A xs := Rd.of_own (hS.ok _ hH.mem)
theorem yv_eqlNil {L : List (Nat × Value)} {R : World → Prop} {d : Option Nat} {x y : Operand} {t t' e n c : Nat} {A : Option Addr} (ht : P.underlying t = some (.slice e)) (hx : ev L x = some (.slice A n c)) (hy : ev L y = some (.slice none 0 0)) : Yv P L R ⟨d, .binOp .eql t x y t', ty, pos, af, g⟩ (.bool A.isNone) := Yv.mk fun w1 _ ρ hρ => by
  simp only [execOp, hρ x _ hx, hρ y _ hy, eqGuard]
  simp [binOp, run_equal_slice_nil w1 t e A n c ht]
theorem yv_eqlS {L : List (Nat × Value)} {R : World → Prop} {d : Option Nat} {x y : Operand} {t t' : TypeId} {xs ys : Array Value} {b : Bool} (hm : P.eqGuardType P.depth t = false) (hx : ev L x = some (.agg xs)) (hy : ev L y = some (.agg ys)) (hE : ∀ w, (Op.equalIn 10000 t (.agg xs) (.agg ys)).run P w = .ok b w) : Yv P L R ⟨d, .binOp .eql t x y t', ty, pos, af, g⟩ (.bool b) := Yv.mk fun w1 _ ρ hρ => by
  simp only [execOp, hρ x _ hx, hρ y _ hy, Sem.run_bind, run_eqGuard_agg w1 .eql t x y xs ys hm, Result.andThen_ok, run_eql_struct, hE w1, Sem.run_pure]
theorem yv_neqS {L : List (Nat × Value)} {R : World → Prop} {d : Option Nat} {x y : Operand} {t t' : TypeId} {xs ys : Array Value} {b : Bool} (hm : P.eqGuardType P.depth t = false) (hx : ev L x = some (.agg xs)) (hy : ev L y = some (.agg ys)) (hE : ∀ w, (Op.equalIn 10000 t (.agg xs) (.agg ys)).run P w = .ok b w) : Yv P L R ⟨d, .binOp .neq t x y t', ty, pos, af, g⟩ (.bool (!b)) := Yv.mk fun w1 _ ρ hρ => by
  simp only [execOp, hρ x _ hx, hρ y _ hy, Sem.run_bind, run_eqGuard_agg w1 .neq t x y xs ys hm, Result.andThen_ok, run_neq_struct, hE w1, Sem.run_pure]
end
end Go.Proofs.YtofheinbbefbcaaDoor
/- Facts of the program's types. -/
namespace Go.Proofs.YtofheinbbefbcaaDoor
open Go
set_option maxRecDepth 100000
theorem sc_1 : ScC Tryd.prog 1 := ⟨by kernel_rfl⟩
theorem sc_3 : ScC Tryd.prog 3 := ⟨by kernel_rfl⟩
theorem sc_5 : ScC Tryd.prog 5 := ⟨by kernel_rfl⟩
theorem sc_23 : ScC Tryd.prog 23 := ⟨by kernel_rfl⟩
theorem sc_48 : ScC Tryd.prog 48 := ⟨by kernel_rfl⟩
theorem sc_88 : ScC Tryd.prog 88 := ⟨by kernel_rfl⟩
theorem sc_90 : ScC Tryd.prog 90 := ⟨by kernel_rfl⟩
theorem zc_3 : ZcC Tryd.prog 3 [.int .i64 0] := ⟨by kernel_rfl⟩
theorem zc_5 : ZcC Tryd.prog 5 [.int .u8 0] := ⟨by kernel_rfl⟩
theorem el_22 : ElC Tryd.prog 22 40 3 := ⟨by kernel_rfl⟩
theorem el_23 : ElC Tryd.prog 23 5 1 := ⟨by kernel_rfl⟩
theorem zc_23 : ZcC Tryd.prog 23 [.slice none 0 0] := ⟨by kernel_rfl⟩
theorem ag_33 : AgC Tryd.prog 33 3 := ⟨by kernel_rfl⟩
theorem fo_33_0 : FoC Tryd.prog 33 0 0 := ⟨by kernel_rfl⟩
theorem ag_47 : AgC Tryd.prog 47 2 := ⟨by kernel_rfl⟩
theorem fo_47_0 : FoC Tryd.prog 47 0 0 := ⟨by kernel_rfl⟩
theorem fo_47_1 : FoC Tryd.prog 47 1 1 := ⟨by kernel_rfl⟩
theorem el_48 : ElC Tryd.prog 48 66 4 := ⟨by kernel_rfl⟩
theorem ag_50 : AgC Tryd.prog 50 6 := ⟨by kernel_rfl⟩
theorem fo_50_0 : FoC Tryd.prog 50 0 0 := ⟨by kernel_rfl⟩
theorem fo_50_1 : FoC Tryd.prog 50 1 1 := ⟨by kernel_rfl⟩
theorem fo_50_2 : FoC Tryd.prog 50 2 2 := ⟨by kernel_rfl⟩
theorem fo_50_3 : FoC Tryd.prog 50 3 3 := ⟨by kernel_rfl⟩
theorem fo_50_4 : FoC Tryd.prog 50 4 5 := ⟨by kernel_rfl⟩
theorem zc_50 : ZcC Tryd.prog 50 [.int .i64 0, .int .i64 0, .int .i64 0, .int .i64 0, .int .i64 0, .slice none 0 0] := ⟨by kernel_rfl⟩
theorem el_58 : ElC Tryd.prog 58 62 3 := ⟨by kernel_rfl⟩
theorem ag_62 : AgC Tryd.prog 62 3 := ⟨by kernel_rfl⟩
theorem fo_62_0 : FoC Tryd.prog 62 0 0 := ⟨by kernel_rfl⟩
theorem fo_62_1 : FoC Tryd.prog 62 1 1 := ⟨by kernel_rfl⟩
theorem fo_62_2 : FoC Tryd.prog 62 2 2 := ⟨by kernel_rfl⟩
theorem zc_62 : ZcC Tryd.prog 62 [.int .u8 0, .int .i64 0, .int .i64 0] := ⟨by kernel_rfl⟩
theorem ag_66 : AgC Tryd.prog 66 4 := ⟨by kernel_rfl⟩
theorem fo_66_0 : FoC Tryd.prog 66 0 0 := ⟨by kernel_rfl⟩
theorem fo_66_1 : FoC Tryd.prog 66 1 1 := ⟨by kernel_rfl⟩
theorem fo_66_2 : FoC Tryd.prog 66 2 2 := ⟨by kernel_rfl⟩
theorem fo_66_3 : FoC Tryd.prog 66 3 3 := ⟨by kernel_rfl⟩
theorem zc_66 : ZcC Tryd.prog 66 [.int .i64 0, .int .i64 0, .int .i64 0, .int .i64 0] := ⟨by kernel_rfl⟩
theorem zc_88 : ZcC Tryd.prog 88 [.map none] := ⟨by kernel_rfl⟩
theorem el_90 : ElC Tryd.prog 90 3 1 := ⟨by kernel_rfl⟩
end Go.Proofs.YtofheinbbefbcaaDoor
/- Tuples, as plain numbers. -/
namespace Go.Proofs.YtofheinbbefbcaaDoor
open Go Go.RowKit
set_option maxRecDepth 100000

structure Tu where
  snap : St
  log : List En
  term : Int
  vote : Int
deriving DecidableEq
/-- The last index. -/
def Tu.last (t : Tu) : Int := t.snap.index + t.log.length
end Go.Proofs.YtofheinbbefbcaaDoor
/- Arguments opened: tuples, and what is done. -/
namespace Go.Proofs.YtofheinbbefbcaaDoor
open Go Go.ChangeShapes Go.WideShapes Go.ChangeAt Go.RowKit
set_option maxRecDepth 100000

/-- A row's cell. -/
theorem flat_get {α β : Type} (f : α → List β) (k : Nat) (hf : ∀ a, (f a).length = k) (l : List α) (i : Nat) (a : α) (ha : l[i]? = some a) (j : Nat) (hj : j < k) : (l.flatMap f)[i * k + j]? = (f a)[j]? := by
  induction l generalizing i with
  | nil => simp at ha
  | cons b l ih =>
    cases i with
    | zero =>
      simp only [List.getElem?_cons_zero, Option.some.injEq] at ha
      subst ha
      rw [List.flatMap_cons, List.getElem?_append_left (by rw [hf]; omega)]
      simp
    | succ i =>
      rw [List.getElem?_cons_succ] at ha
      rw [List.flatMap_cons, List.getElem?_append_right (by rw [hf, Nat.succ_mul]; omega), hf]
      have : (i + 1) * k + j - k = i * k + j := by rw [Nat.succ_mul]; omega
      rw [this]
      exact ih i ha
theorem flat_len {α β : Type} (f : α → List β) (k : Nat) (hf : ∀ a, (f a).length = k) (l : List α) : (l.flatMap f).length = l.length * k := by
  induction l with
  | nil => simp
  | cons b l ih => rw [List.flatMap_cons, List.length_append, hf, ih, List.length_cons, Nat.succ_mul]; omega
section
variable {P : Program} {H : Type} {enc : TypeId × Value → H} {W : World} {base0 : Nat} {sp : Nat → Bool} {held : Bool} {base : Nat}

/-- A slice opened, whatever its elements are. -/
theorem trod_rows {α : Type} [Inhabited α] (f : α → List Value) (p : α → Prop) (k : Nat) (hk : 0 < k) (hf : ∀ x, (f x).length = k) {T E : TypeId} (hT : P.underlying T = some (.slice E)) (hc : P.cellsOf E = k)
    (hE : ∀ n cs y, DataW.trod enc P W base0 sp held n E cs = some y → ∃ x, p x ∧ cs = f x) {fuel : Nat} {cs : List Value} {x : DataW H × List MemPlace} (h : DataW.trod enc P W base0 sp held fuel T cs = some x) :
    ∃ A c, ∃ l : List α, cs = [.slice A l.length c] ∧ l.length ≤ c ∧ c ≤ maxLen ∧ Rd W A (l.flatMap f) ∧ ∀ e ∈ l, p e := by
  rcases DataW.trod_slice hT h with ⟨rfl, _⟩ | ⟨a, len, cap, elems, rest, n, _, rfl, _, _, hlc, hcm, hel, hi, _⟩
  · exact ⟨none, 0, [], rfl, Nat.le_refl _, Nat.zero_le _, Rd.nil _ _, by simp⟩
  · rw [hc] at hi
    have each : ∀ r, r < len → ∃ e : α, p e ∧ ∀ j, j < k → W.cell? ((a.add (r * k)).add j) = (f e)[j]? := fun r hr => by
      have h2 := hi r hr
      have h3 : elems[r]? = some (elems[r]'(by omega)) := List.getElem?_eq_getElem (by omega)
      rw [h3, Option.bind_eq_some_iff] at h2
      obtain ⟨cs, hcs, ht⟩ := h2
      obtain ⟨_, _, hcell⟩ := World.cells?_some hcs
      obtain ⟨e, he, rfl⟩ := hE _ _ _ ht
      exact ⟨e, he, hcell⟩
    obtain ⟨g, hgs⟩ := choose_below each
    have hlen : ((List.range len).map g).length = len := by simp
    obtain ⟨ab, ao, spot⟩ := a
    refine ⟨some ⟨ab, ao, spot⟩, cap, (List.range len).map g, by rw [hlen], by omega, hcm, fun j u hj => ?_, fun e he => ?_⟩
    · have hjl : j < len * k := by
        have := (List.getElem?_eq_some_iff.1 hj).1
        rw [flat_len f k hf, hlen] at this
        exact this
      have hr : j / k < len := Nat.div_lt_of_lt_mul (by rw [Nat.mul_comm]; exact hjl)
      have hm : j % k < k := Nat.mod_lt _ hk
      have hjd : j / k * k + j % k = j := by rw [Nat.mul_comm]; exact Nat.div_add_mod j k
      obtain ⟨_, gc⟩ := hgs (j / k) hr
      have gj := gc (j % k) hm
      have hg : ((List.range len).map g)[j / k]? = some (g (j / k)) := by simp [hr]
      have hj2 := flat_get f k hf _ _ _ hg (j % k) hm
      rw [hjd, hj] at hj2
      rw [← hj2] at gj
      have hspot : spot = none := by
        have g0 := (hgs 0 (Nat.lt_of_le_of_lt (Nat.zero_le _) hr)).2 0 hk
        rw [List.getElem?_eq_getElem (by rw [hf]; exact hk)] at g0
        have := World.cell?_spot g0
        simpa [Addr.add] using this
      subst hspot
      simp only [Addr.add_lit] at gj
      refine ⟨ab, ao, rfl, World.block_lt_of_cell? W _ gj, ?_⟩
      rw [Nat.add_assoc, hjd] at gj
      exact gj
    · obtain ⟨r, hr, rfl⟩ := List.mem_map.1 he
      exact (hgs r (by simpa using hr)).1
/-- A slice that is a part of a struct lies in the world. -/
theorem okWide_part {t u e : TypeId} {fs : Array Field} {ts : List TypeId} {l : List Value} {i n c : Nat} {a : Addr} (ht : P.underlying t = some (.struct fs)) (hts : P.cellTypes P.depth t = some ts) (hu : ts[i]? = some u) (hlen : l.length = ts.length) (hs : P.underlying u = some (.slice e))
    (h : Value.okWide P W .any base t (.agg l.toArray)) (hi : l[i]? = some (.slice (some a) n c)) : a.block < W.heap.size := by
  simp only [Value.okWide, ht] at h
  obtain ⟨cs, h1, _, ts', h3, _, h5⟩ := h
  injection h1 with h1
  subst h1
  rw [hts] at h3
  injection h3 with h3
  subst h3
  obtain ⟨u', hu', hc⟩ := h5 i _ (by simpa using hi)
  have hil := (List.getElem?_eq_some_iff.1 hi).1
  rw [Nat.mod_eq_of_lt (by omega), hu] at hu'
  injection hu' with hu'
  subst hu'
  simp only [Cell.okWide, hs, Cell.ok, World.has] at hc
  obtain ⟨_, _, _, _, row, cells, hsh, _⟩ := hc
  unfold World.shape? at hsh
  rcases Nat.lt_or_ge a.block W.heap.size with hlt | hge
  · exact hlt
  · rw [Array.getElem?_eq_none hge] at hsh
    simp at hsh
end

section
variable {H : Type} {enc : TypeId × Value → H} {W : World} {base0 : Nat} {sp : Nat → Bool} {held : Bool} {base : Nat}

/-- What is done. -/
structure De where
  k : Int
  A : Option Addr
  c : Nat
  l : List En
  i : Int
  s : St
  t : Int
  v : Int
instance : Inhabited De := ⟨⟨0, none, 0, [], 0, default, 0, 0⟩⟩
def De.cells (d : De) : List Value := [.int .u8 d.k, .slice d.A d.l.length d.c, .int .i64 d.i, .int .i64 d.s.index, .int .i64 d.s.term, .int .i64 d.s.sum, .int .i64 d.s.level, .bool d.s.final, .int .i64 d.t, .int .i64 d.v]
def De.ok (w : World) (d : De) : Prop := 0 ≤ d.k ∧ d.l.length ≤ d.c ∧ d.c ≤ maxLen ∧ Rd w d.A (ens d.l)
end
end Go.Proofs.YtofheinbbefbcaaDoor
/- A walk by laws alone. Eighth part: more of lists of blocks. -/
namespace Go.Proofs.YtofheinbbefbcaaDoor
open Go Go.RowKit
set_option maxRecDepth 100000
section
variable {P : Program} {w w0 : World} {S : Nat → Prop} {H H' : List Ent}
theorem St0.sub (h : St0 S w0 w H) (hs : List.Sublist H' H) : St0 S w0 w H' := ⟨h.base, fun e he => h.ok e (hs.subset he), fun e he => h.rng e (hs.subset he), h.dis.sublist hs⟩
theorem St0.addE {e : Ent} (h : St0 S w0 w H) (ho : e.ok w) (hr : ∀ k, e.occ k → k < w.heap.size ∧ (k < w0.heap.size → ¬ S k)) (hd : ∀ e' ∈ H, ∀ k, e.occ k → e'.occ k → False) : St0 S w0 w (e :: H) :=
  ⟨h.base, fun x hx => (List.mem_cons.1 hx).elim (fun hx => by subst hx; exact ho) (h.ok x), fun x hx => (List.mem_cons.1 hx).elim (fun hx => by subst hx; exact hr) (h.rng x), List.pairwise_cons.2 ⟨hd, h.dis⟩⟩
/-- Two entries are apart. -/
theorem St0.apart (h : St0 S w0 w H) (i j : Nat) {e e' : Ent} (hi : H[i]? = some e) (hj : H[j]? = some e') (hij : Nat.beq i j = false) : ∀ k, e.occ k → e'.occ k → False := fun k h1 h2 => by
  have hne : i ≠ j := fun h0 => by subst h0; simp at hij
  obtain ⟨a1, a2⟩ := List.getElem?_eq_some_iff.1 hi
  obtain ⟨b1, b2⟩ := List.getElem?_eq_some_iff.1 hj
  rcases Nat.lt_or_ge i j with hlt | hge
  · have := (List.pairwise_iff_getElem.1 h.dis) i j a1 b1 hlt k
    rw [a2, b2] at this
    exact this h1 h2
  · have := (List.pairwise_iff_getElem.1 h.dis) j i b1 a1 (by omega) k
    rw [a2, b2] at this
    exact this h2 h1
theorem St0.box_cell {b o T : Nat} {cs : List Value} {v : Value} (h : St0 S w0 w H) (hH : Has H (.box b cs T)) (hc : Seg cs o 1 [v]) : w.cell? ⟨b, o, none⟩ = some v := by
  have hok : Ent.ok w (.box b cs T) := h.ok _ hH.mem
  rw [Go.Proofs.YtofheinbbefbcaaDoor.box_cell hok]
  have h2 : ((cs.drop o).take 1)[0]? = some v := by rw [← hc.spec.1]; rfl
  simpa using h2
variable {ops : Array Oper} {Q : Exit → Act → World → Prop} {rest : List Oper} {N : FS} {L : List (Nat × Value)} {dn : Nat} {ty : TypeId} {pos : String} {af : Array Edge} {g : Option (Nat × Bool)}
/-- A slice laid out: its cells are given. -/
theorem wpS_sliceM {t e size n : Nat} {ps : List (Nat × Operand)} {vs zs : List Value} (cells : List Value) (ht0 : ElC P t e size) (hz0 : ZcC P e zs) (hg : wantB ops L g = some true) (hN : Nat.ble (dn + 1) N.n = true)
    (hp : evs L (ps.map (·.2)) = some vs) (hsm : Nat.ble (n * size) 16777216 = true) (hp0 : Nat.beq (n * size) 0 = false)
    (hfill : Instr.fill (fun i => some (i * size, size)) ((Array.range (n * size)).map (zs.toArray[· % zs.toArray.size]!)) ((ps.map (·.1)).zip vs) = some cells.toArray) (hS : St0 S w0 w H)
    (k : ∀ b w', St0 S w0 w' (.box b cells e :: H) → Below w.heap.size w w' → wpS P ops Q rest N ((dn, .slice (some ⟨b, 0, none⟩) n n) :: L) w') :
    wpS P ops Q (⟨some dn, .buildSlice t n ps.toArray, ty, pos, af, g⟩ :: rest) N L w := by
  have ht := ht0.h
  unfold elemOfSlice at ht
  split at ht
  · rename_i e' hu
    split at ht
    · rename_i i hi
      simp only [Option.some.injEq, Prod.mk.injEq] at ht
      obtain ⟨rfl, rfl⟩ := ht
      have hz := hz0.h
      unfold zeroCells at hz
      rw [hi] at hz
      cases hzz : i.zero with
      | none => simp [hzz] at hz
      | some z =>
        simp only [hzz, Option.bind_some, Option.map_some, Option.some.injEq] at hz
        subst hz
        refine wpS_sliceN (z := z) (ie := i) (zs := []) (size := 0) hg hN hu hi hzz hp (by have := Nat.le_of_ble_eq_true hsm; omega) (fun h => by rw [h] at hp0; simp at hp0) ?_ hS k
        simpa using hfill
    · cases ht
  · cases ht
end
end Go.Proofs.YtofheinbbefbcaaDoor
/- A walk by laws alone. Ninth part: two operations that may come up next; where ways meet. -/
namespace Go.Proofs.YtofheinbbefbcaaDoor
open Go Go.RowKit
set_option maxRecDepth 100000
section
variable {P : Program} {ro : Option Nat} {Q : Exit → Act → World → Prop} {w w0 : World} {S : Nat → Prop} {H H' : List Ent} {N : FS} {L : List (Nat × Value)} {md : Region.Mode} {G : Nat → Nat → Prop} {sl : List Nat}
theorem St0.reord (h : St0 S w0 w H) (hp : H.Perm H') : St0 S w0 w H' := ⟨h.base, fun e he => h.ok e (hp.mem_iff.2 he), fun e he => h.rng e (hp.mem_iff.2 he), (hp.pairwise_iff (fun hR k h1 h2 => hR k h2 h1)).1 h.dis⟩
end
end Go.Proofs.YtofheinbbefbcaaDoor
/- Laws for walks that a program of mine prints: values as the program reckons them, every test left open. -/
namespace Go.Proofs.YtofheinbbefbcaaDoor
open Go Go.RowKit
set_option maxRecDepth 100000

/-! ### What is said in plain terms -/
/-- The element at a place. -/
def idx {α : Type} (l : List α) (i : Int) : Option α := if 0 ≤ i then l[i.toNat]? else none
/-- The same list but for one place. -/
def setI {α : Type} (l : List α) (i : Int) (x : α) : List α := l.set i.toNat x
/-- l[:h], if there are as many. -/
def takeI {α : Type} (l : List α) (h : Int) : Option (List α) := if 0 ≤ h ∧ h ≤ (l.length : Int) then some (l.take h.toNat) else none
/-- l[k:], if there are as many. -/
def dropI {α : Type} (l : List α) (k : Int) : Option (List α) := if 0 ≤ k ∧ k ≤ (l.length : Int) then some (l.drop k.toNat) else none
/-- So many at most that no append can fail. -/
def fewI {α : Type} (l : List α) : Option (List α) := if l.length ≤ 1000000000 then some l else none
/-- x rem y, y not nought. -/
def remI (m n : Int) : Option Int := if n ≠ 0 then some (m.tmod n) else none
/-- How often a loop is gone through at most. -/
def fuelN : Nat := 100000000
theorem idx_some {α : Type} {l : List α} {i : Int} {x : α} (h : idx l i = some x) : ∃ k : Nat, i = (k : Int) ∧ l[k]? = some x ∧ k < l.length := by
  unfold idx at h
  split at h
  · rename_i h0
    exact ⟨i.toNat, by omega, h, (List.getElem?_eq_some_iff.1 h).1⟩
  · cases h
theorem takeI_some {α : Type} {l r : List α} {i : Int} (h : takeI l i = some r) : ∃ k : Nat, i = (k : Int) ∧ r = l.take k ∧ k ≤ l.length ∧ r.length = k := by
  unfold takeI at h
  split at h
  · rename_i h0
    injection h with h
    exact ⟨i.toNat, by omega, h.symm, by omega, by rw [← h, List.length_take]; omega⟩
  · cases h
theorem dropI_some {α : Type} {l r : List α} {i : Int} (h : dropI l i = some r) : ∃ k : Nat, i = (k : Int) ∧ r = l.drop k ∧ k ≤ l.length ∧ r.length = l.length - k := by
  unfold dropI at h
  split at h
  · rename_i h0
    injection h with h
    exact ⟨i.toNat, by omega, h.symm, by omega, by rw [← h, List.length_drop]⟩
  · cases h
theorem fewI_some {α : Type} {l r : List α} (h : fewI l = some r) : r = l ∧ l.length ≤ 1000000000 := by
  unfold fewI at h
  split at h
  · rename_i h0; injection h with h; exact ⟨h.symm, h0⟩
  · cases h
theorem remI_some {m n r : Int} (h : remI m n = some r) : n ≠ 0 ∧ r = m.tmod n := by
  unfold remI at h
  split at h
  · rename_i h0; injection h with h; exact ⟨h0, h.symm⟩
  · cases h
theorem bind_some {α β : Type} {o : Option α} {f : α → Option β} {r : β} (h : o.bind f = some r) : ∃ v, o = some v ∧ f v = some r := by
  cases o with
  | none => cases h
  | some v => exact ⟨v, rfl, h⟩
theorem cond_t {α : Type} {b : Bool} {x y : Option α} {r : α} (h : cond b x y = some r) (hb : b = true) : x = some r := by subst hb; exact h
theorem cond_f {α : Type} {b : Bool} {x y : Option α} {r : α} (h : cond b x y = some r) (hb : b = false) : y = some r := by subst hb; exact h

/-! ### Rows of elements -/
/-- The cells of a list's elements. -/
def encs {α : Type} (e : α → List Value) (l : List α) : List Value := l.flatMap e
def enI (n : Int) : List Value := [.int .i64 n]
def enY (b : UInt8) : List Value := [.int .u8 b.toNat]
theorem encs_length {α : Type} {e : α → List Value} {k : Nat} (he : ∀ x, (e x).length = k) (l : List α) : (encs e l).length = l.length * k := by
  induction l with
  | nil => simp [encs]
  | cons x l ih =>
    have : encs e (x :: l) = e x ++ encs e l := by simp [encs]
    rw [this, List.length_append, he, ih, List.length_cons, Nat.succ_mul, Nat.add_comm]
theorem encs_app {α : Type} (e : α → List Value) (l m : List α) : encs e (l ++ m) = encs e l ++ encs e m := by simp [encs]
theorem encs_cons {α : Type} (e : α → List Value) (x : α) (l : List α) : encs e (x :: l) = e x ++ encs e l := by simp [encs]
theorem encs_drop {α : Type} {e : α → List Value} {k : Nat} (he : ∀ x, (e x).length = k) (l : List α) (j : Nat) : encs e (l.drop j) = (encs e l).drop (j * k) := by
  induction l generalizing j with
  | nil => simp [encs]
  | cons x l ih =>
    cases j with
    | zero => simp
    | succ j =>
      rw [List.drop_succ_cons, ih, encs_cons, Nat.succ_mul, Nat.add_comm, List.drop_append, he]
      have : (e x).drop (k + j * k) = [] := List.drop_eq_nil_of_le (by rw [he]; omega)
      rw [this, List.nil_append]; congr 1; omega
theorem encs_take {α : Type} {e : α → List Value} {k : Nat} (he : ∀ x, (e x).length = k) (l : List α) (j : Nat) : encs e (l.take j) = (encs e l).take (j * k) := by
  induction l generalizing j with
  | nil => simp [encs]
  | cons x l ih =>
    cases j with
    | zero => simp [encs]
    | succ j =>
      rw [List.take_succ_cons, encs_cons, ih, encs_cons, Nat.succ_mul, Nat.add_comm, List.take_append, he]
      have h1 : (e x).take (k + j * k) = e x := List.take_of_length_le (by rw [he]; omega)
      have h2 : k + j * k - k = j * k := by omega
      rw [h1, h2]
theorem encs_at {α : Type} {e : α → List Value} {k : Nat} (he : ∀ x, (e x).length = k) {l : List α} {j : Nat} {x : α} (h : l[j]? = some x) (f : Nat) (hf : f < k) : (encs e l)[j * k + f]? = (e x)[f]? := by
  have hj := (List.getElem?_eq_some_iff.1 h).1
  have h1 : l.drop j = x :: l.drop (j + 1) := by
    rw [List.drop_eq_getElem_cons hj]; congr 1; exact (List.getElem?_eq_some_iff.1 h).2
  have h2 := encs_drop he l j
  rw [h1, encs_cons] at h2
  have h3 : (encs e l)[j * k + f]? = ((encs e l).drop (j * k))[f]? := by rw [List.getElem?_drop]
  rw [h3, ← h2, List.getElem?_append_left (by rw [he]; exact hf)]

/-- A slice's elements, at a world. -/
structure SlI {α : Type} (w : World) (e : α → List Value) (A : Option Addr) (c : Nat) (l : List α) : Prop where
  le : l.length ≤ c
  cap : c ≤ maxLen
  rd : Rd w A (encs e l)
  blk : ∀ a, A = some a → a.block < w.heap.size
theorem SlI.nil {α : Type} (w : World) (e : α → List Value) : SlI w e none 0 [] := ⟨Nat.le_refl _, Nat.zero_le _, Rd.nil _ _, fun _ h => by cases h⟩
/-- An element's cells. -/
structure El (w : World) (A : Option Addr) (o : Nat) (cs : List Value) : Prop where
  adr : ∃ b q, A = some ⟨b, q, none⟩
  at_ : ∀ f v, cs[f]? = some v → ∀ b q, A = some ⟨b, q, none⟩ → w.cell? ⟨b, q + (o + f), none⟩ = some v
theorem Rd.el {α : Type} {w : World} {A : Option Addr} {e : α → List Value} {k : Nat} {l : List α} (hr : Rd w A (encs e l)) (he : ∀ x, (e x).length = k + 1) {j : Nat} {x : α} (h : l[j]? = some x) : El w A (j * (k + 1)) (e x) := by
  have h0 : ∀ f v, (e x)[f]? = some v → (encs e l)[j * (k + 1) + f]? = some v := fun f v hv => by
    have hf := (List.getElem?_eq_some_iff.1 hv).1
    rw [he] at hf
    rw [encs_at he h f hf]; exact hv
  refine ⟨?_, fun f v hv b q hA => ?_⟩
  · obtain ⟨v, hv⟩ : ∃ v, (e x)[0]? = some v := ⟨_, List.getElem?_eq_getElem (by rw [he]; omega)⟩
    obtain ⟨b, q, hA, _⟩ := hr _ _ (h0 0 v hv)
    exact ⟨b, q, hA⟩
  · obtain ⟨b', q', hA', _, hc⟩ := hr _ _ (h0 f v hv)
    rw [hA'] at hA
    injection hA with hA
    injection hA with h1 h2
    subst h1; subst h2
    exact hc

section
variable {P : Program} {L : List (Nat × Value)} {R : World → Prop} {d : Option Nat} {ty : TypeId} {pos : String} {af : Array Edge} {g : Option (Nat × Bool)} {w : World}
/-! ### Numbers -/
theorem yx_add {x y : Operand} {t t' : TypeId} {k : IntKind} {m n : Int} (hx : ev L x = some (.int k m)) (hy : ev L y = some (.int k n)) : Yv P L R ⟨d, .binOp .add t x y t', ty, pos, af, g⟩ (.int k (k.wrap (m + n))) := Yv.mk fun w1 _ ρ hρ => by
  simp only [execOp, hρ x _ hx, hρ y _ hy, eqGuard]
  simp [binOp, Op.intArith]
theorem yx_sub {x y : Operand} {t t' : TypeId} {k : IntKind} {m n : Int} (hx : ev L x = some (.int k m)) (hy : ev L y = some (.int k n)) : Yv P L R ⟨d, .binOp .sub t x y t', ty, pos, af, g⟩ (.int k (k.wrap (m - n))) := Yv.mk fun w1 _ ρ hρ => by
  simp only [execOp, hρ x _ hx, hρ y _ hy, eqGuard]
  simp [binOp, Op.intArith]
theorem yx_mul {x y : Operand} {t t' : TypeId} {k : IntKind} {m n : Int} (hx : ev L x = some (.int k m)) (hy : ev L y = some (.int k n)) : Yv P L R ⟨d, .binOp .mul t x y t', ty, pos, af, g⟩ (.int k (k.wrap (m * n))) := Yv.mk fun w1 _ ρ hρ => by
  simp only [execOp, hρ x _ hx, hρ y _ hy, eqGuard]
  simp [binOp, Op.intArith]
theorem yx_neg {x : Operand} {t : TypeId} {k : IntKind} {n : Int} (hx : ev L x = some (.int k n)) : Yv P L R ⟨d, .unOp .neg t x, ty, pos, af, g⟩ (.int k (k.wrap (0 - n))) := Yv.mk fun w1 _ ρ hρ => by
  simp only [execOp, hρ x _ hx]
  simp only [Op.unary, Op.intArith, Sem.run_bind, Sem.run_pure, Result.andThen_ok]
theorem yx_rem {x y : Operand} {t t' : TypeId} {k : IntKind} {m n : Int} (hx : ev L x = some (.int k m)) (hy : ev L y = some (.int k n)) (h : n ≠ 0) : Yv P L R ⟨d, .binOp .rem t x y t', ty, pos, af, g⟩ (.int k (m.tmod n)) := Yv.mk fun w1 _ ρ hρ => by
  simp only [execOp, hρ x _ hx, hρ y _ hy, eqGuard]
  simp [binOp, Op.intDiv, h]
theorem yx_idx {x y : Operand} {t e n c k j : Nat} {q : IntKind} {i : Int} {A : Option Addr} (ht0 : ElC P t e k) (hx : ev L x = some (.slice A n c)) (hy : ev L y = some (.int q i)) (hi : i = (j : Int)) (hj : j < n) {w' : World} {cs : List Value} (hA : El w' A (j * k) cs) : Yv P L R ⟨d, .indexAddr t x y, ty, pos, af, g⟩ (.pointer (A.map (·.add (j * k)))) := by
  obtain ⟨b, o, rfl⟩ := hA.adr
  have := yv_indexAddr (P := P) (L := L) (R := R) (d := d) (ty := ty) (pos := pos) (af := af) (g := g) (x := x) (y := y) (j := j) ht0 hx hy hi hj
  simpa [Addr.add_mid] using this
theorem yx_fieldAddr {x : Operand} {s f k o : Nat} {A : Option Addr} {w' : World} {cs : List Value} {o' : Nat} (hk0 : FoC P s f k) (hx : ev L x = some (.pointer (A.map (·.add o)))) (hA : El w' A o' cs) : Yv P L R ⟨d, .fieldAddr s x f, ty, pos, af, g⟩ (.pointer (A.map (·.add (o + k)))) := by
  obtain ⟨b, q, rfl⟩ := hA.adr
  simp only [Option.map_some, Addr.add_mid] at hx ⊢
  have := yv_fieldAddr (P := P) (L := L) (R := R) (d := d) (ty := ty) (pos := pos) (af := af) (g := g) hk0 hx
  rw [← Nat.add_assoc]; exact this
theorem yx_ld {x : Operand} {t : TypeId} {o f : Nat} {A : Option Addr} {v : Value} {cs : List Value} (hs0 : ScC P t) (hx : ev L x = some (.pointer (A.map (·.add (o + f))))) (hR : RW R (fun _ => True) w) (hE : El w A o cs) (hv : cs[f]? = some v) : Yv P L R ⟨d, .load t x, ty, pos, af, g⟩ v := by
  obtain ⟨b, q, rfl⟩ := hE.adr
  simp only [Option.map_some, Addr.add_mid] at hx
  exact yv_load hs0 hx hR trivial (hE.at_ f v hv b q rfl)
theorem yx_ld0 {x : Operand} {t : TypeId} {o : Nat} {A : Option Addr} {v : Value} {cs : List Value} (hs0 : ScC P t) (hx : ev L x = some (.pointer (A.map (·.add o)))) (hR : RW R (fun _ => True) w) (hE : El w A o cs) (hv : cs[0]? = some v) : Yv P L R ⟨d, .load t x, ty, pos, af, g⟩ v := yx_ld (o := o) (f := 0) hs0 hx hR hE hv
theorem yx_ldA {x : Operand} {t : TypeId} {o f n : Nat} {A : Option Addr} {vs cs : List Value} (hn0 : AgC P t n) (hx : ev L x = some (.pointer (A.map (·.add (o + f))))) (hR : RW R (fun _ => True) w) (hE : El w A o cs) (hv : Seg cs f n vs) : Yv P L R ⟨d, .load t x, ty, pos, af, g⟩ (.agg vs.toArray) := by
  obtain ⟨b, q, rfl⟩ := hE.adr
  simp only [Option.map_some, Addr.add_mid] at hx
  refine yv_loadA hn0 hx hR trivial (fun j v hj => ?_) hv.spec.2
  have h1 := hv.spec.1
  have : cs[f + j]? = some v := by
    rw [h1, List.getElem?_take] at hj
    split at hj
    · rwa [List.getElem?_drop] at hj
    · cases hj
  have := hE.at_ (f + j) v this b q rfl
  rw [show q + (o + f) + j = q + (o + (f + j)) by omega]; exact this
theorem yx_ldA0 {x : Operand} {t : TypeId} {o n : Nat} {A : Option Addr} {vs cs : List Value} (hn0 : AgC P t n) (hx : ev L x = some (.pointer (A.map (·.add o)))) (hR : RW R (fun _ => True) w) (hE : El w A o cs) (hv : Seg cs 0 n vs) : Yv P L R ⟨d, .load t x, ty, pos, af, g⟩ (.agg vs.toArray) := yx_ldA (o := o) (f := 0) hn0 hx hR hE hv
/-! ### Parts of slices -/
theorem yx_slice_h {α : Type} {x y : Operand} {t e c k : Nat} {q : IntKind} {i : Int} {A : Option Addr} {l r : List α} (ht0 : ElC P t e k) (hx : ev L x = some (.slice A l.length c)) (hy : ev L y = some (.int q i)) (hc : l.length ≤ c) (h : takeI l i = some r) : Yv P L R ⟨d, .slice t x none (some y) none, ty, pos, af, g⟩ (.slice A r.length c) := by
  obtain ⟨k, hi, _, hk, hl⟩ := takeI_some h
  rw [hl]
  exact yv_slice_h ht0 hx hy hi (by omega)
/-- Where a slice's rest begins. -/
def cutA (A : Option Addr) (c k s : Nat) : Option Addr := if c = k then A else A.map (·.add (k * s))
theorem yx_slice_l {α : Type} {x y : Operand} {t e c k : Nat} {q : IntKind} {i : Int} {A : Option Addr} {l r : List α} (ht0 : ElC P t e k) (hx : ev L x = some (.slice A l.length c)) (hy : ev L y = some (.int q i)) (h : dropI l i = some r) : Yv P L R ⟨d, .slice t x (some y) none none, ty, pos, af, g⟩ (.slice (cutA A c i.toNat k) r.length (c - i.toNat)) := by
  obtain ⟨j, hi, _, hk, hl⟩ := dropI_some h
  rw [hl]
  have := yv_slice_l (P := P) (L := L) (R := R) (d := d) (ty := ty) (pos := pos) (af := af) (g := g) ht0 hx hy hi hk
  subst hi
  exact this
theorem Rd.takeI {α : Type} {w : World} {A : Option Addr} {e : α → List Value} {k : Nat} (he : ∀ x, (e x).length = k) {l r : List α} {i : Int} (hr : Rd w A (encs e l)) (h : takeI l i = some r) : Rd w A (encs e r) := by
  obtain ⟨j, _, rfl, _⟩ := takeI_some h
  rw [encs_take he]; exact hr.take _
theorem Rd.dropI {α : Type} {w : World} {A : Option Addr} {e : α → List Value} {k c : Nat} (he : ∀ x, (e x).length = k) {l r : List α} {i : Int} (hr : Rd w A (encs e l)) (hc : l.length ≤ c) (h : dropI l i = some r) : Rd w (cutA A c i.toNat k) (encs e r) := by
  obtain ⟨j, rfl, rfl, hj, _⟩ := dropI_some h
  unfold cutA
  split
  · rename_i h0
    have : l.drop j = [] := List.drop_eq_nil_of_le (by have : (j : Int).toNat = j := by simp
                                                       omega)
    rw [this]; exact Rd.nil _ _
  · rw [encs_drop he]; exact hr.drop _
theorem cutA_blk {A : Option Addr} {c k s n : Nat} (h : ∀ a, A = some a → a.block < n) : ∀ a, cutA A c k s = some a → a.block < n := fun a ha => by
  unfold cutA at ha
  split at ha
  · exact h a ha
  · cases A with
    | none => cases ha
    | some b =>
      injection ha with ha
      subst ha
      have := h b rfl
      obtain ⟨b1, o1, sp⟩ := b
      simp only [Addr.add]
      split <;> exact this
end
end Go.Proofs.YtofheinbbefbcaaDoor
/- Laws for walks that a program of mine prints, second part: splitting, blocks, loops, what is given back. -/
namespace Go.Proofs.YtofheinbbefbcaaDoor
open Go Go.RowKit
set_option maxRecDepth 100000
section
variable {P : Program} {ro : Option Nat} {ops : Array Oper} {Q : Exit → Act → World → Prop} {l : List Oper} {N : FS} {L : List (Nat × Value)} {w w0 w1 : World} {S : Nat → Prop} {H H' : List Ent}
theorem Fr.again {a : Act} {t : Nat} {v : Value} (h : Fr N L a) (hx : lk L t = some v) : Fr N ((t, v) :: L) a := ⟨h.size, h.defers, fun d u hd => by
  simp only [lk] at hd
  cases hb : Nat.beq t d with
  | true =>
    rw [hb] at hd
    simp only [cond_true, Option.some.injEq] at hd
    subst hd
    rw [← Nat.eq_of_beq_eq_true hb]
    exact h.at_ t _ hx
  | false => rw [hb] at hd; exact h.at_ d u hd⟩
theorem wpS_case (t : Nat) {b : Bool} (hx : lk L t = some (.bool b)) (kt : b = true → wpS P ops Q l N ((t, .bool true) :: L) w) (kf : b = false → wpS P ops Q l N ((t, .bool false) :: L) w) : wpS P ops Q l N L w := ⟨fun a hF => by
  have h := hF.again hx
  cases b with
  | true => exact (kt rfl).go a h
  | false => exact (kf rfl).go a h⟩
theorem wpR_case {md : Region.Mode} {G : Nat → Nat → Prop} {sl : List Nat} {f : Nat} {listed : Array Bool} (t : Nat) {b : Bool} (hx : lk L t = some (.bool b)) (kt : b = true → wpR P md ops G sl Q f listed N ((t, .bool true) :: L) w) (kf : b = false → wpR P md ops G sl Q f listed N ((t, .bool false) :: L) w) : wpR P md ops G sl Q f listed N L w := ⟨fun a hF => by
  have h := hF.again hx
  cases b with
  | true => exact (kt rfl).go a h
  | false => exact (kf rfl).go a h⟩
/-- A call walked in place. -/
theorem wpS_in {dst : Option Nat} {ty : TypeId} {pos : String} {af : Array Edge} {g : Option (Nat × Bool)} {rest : List Oper} {x : Operand} {f : FuncId} {cap : Array Value} {xs : List Operand} {ts : Array TypeId} {d : Nat} {vs : List Value}
    (hg : wantB ops L g = some true) (hd : dst = some d) (hN : Nat.ble (d + 1) N.n = true) (hx : ev L x = some (.func (.func f) #[] cap)) (he : enterB P f = true) (ha : evs L xs = some vs)
    (k : Calls P f (vs.toArray ++ cap) w fun e w' => ∃ v, e = .returned v ∧ wpS P ops Q rest N ((d, v) :: L) w') :
    wpS P ops Q (⟨dst, .call { callee := .value x, args := xs.toArray, argTypes := ts }, ty, pos, af, g⟩ :: rest) N L w := wpS_call hg hd hN hx he ha k fun _ _ h => h
/-! ### What is of one's own -/
/-- What a call made. -/
theorem St0.join {Hn : List Ent} (h : St0 S w0 w H) (hn : St0 All w w1 Hn) : St0 S w0 w1 (Hn ++ H) := by
  have hb := hn.pure
  have h' := h.below hb
  refine ⟨h'.base, fun e he => ?_, fun e he k hk => ?_, List.pairwise_append.2 ⟨hn.dis, h.dis, fun x hx y hy k h1 h2 => ?_⟩⟩
  · rcases List.mem_append.1 he with h1 | h1
    · exact hn.ok e h1
    · exact h'.ok e h1
  · rcases List.mem_append.1 he with h1 | h1
    · have h2 := hn.rng e h1 k hk
      refine ⟨h2.1, fun h3 => (h2.2 (Nat.lt_of_lt_of_le h3 h.size) trivial).elim⟩
    · exact h'.rng e h1 k hk
  · have h3 := (h.rng y hy k h2).1
    exact (hn.rng x hx k h1).2 h3 trivial
theorem perm_front {α : Type} : ∀ (H : List α) (i : Nat) (e : α), H[i]? = some e → H.Perm (e :: H.eraseIdx i)
  | [], i, e, h => by simp at h
  | x :: H, 0, e, h => by simp at h; subst h; exact List.Perm.refl _
  | x :: H, i + 1, e, h => by
    have := perm_front H i e (by simpa using h)
    exact (this.cons x).trans (.swap _ _ _)
theorem St0.front (i : Nat) {e : Ent} (h : St0 S w0 w H) (hi : H[i]? = some e) : St0 S w0 w (e :: H.eraseIdx i) := by
  exact h.reord (perm_front H i e hi)
/-- One entry says less. -/
structure Weak (w : World) (e e' : Ent) : Prop where
  ok : e.ok w → e'.ok w
  occ : ∀ k, e'.occ k → e.occ k
theorem St0.weak {e e' : Ent} (h : St0 S w0 w (e :: H)) (hw : Weak w e e') : St0 S w0 w (e' :: H) := by
  refine ⟨h.base, fun x hx => ?_, fun x hx k hk => ?_, List.pairwise_cons.2 ⟨fun y hy k h1 h2 => ?_, h.dis.tail⟩⟩
  · rcases List.mem_cons.1 hx with rfl | hx
    · exact hw.ok (h.ok e (by simp))
    · exact h.ok x (by simp [hx])
  · rcases List.mem_cons.1 hx with rfl | hx
    · exact h.rng e (by simp) k (hw.occ k hk)
    · exact h.rng x (by simp [hx]) k hk
  · exact (List.pairwise_cons.1 h.dis).1 y hy k (hw.occ k h1) h2
theorem St0.nilRow (e size : Nat) (h : St0 S w0 w H) : St0 S w0 w (.row (.slice none 0 0) e size 0 [] :: H) :=
  h.addE ⟨by simp, .inl ⟨rfl, rfl⟩⟩ (fun k hk => by cases hk) (fun _ _ k hk => by cases hk)
theorem St0.cut (n : Nat) (h : St0 S w0 w H) : St0 S w0 w (H.take n) := h.sub (List.take_sublist n H)
theorem SlI.of_rd {α : Type} {e : α → List Value} {A : Option Addr} {c : Nat} {xs : List α} (k : xs.length ≤ c ∧ c ≤ maxLen) (h : Rd w A (encs e xs)) (hb : ∀ a, A = some a → a.block < w.heap.size) : SlI w e A c xs := ⟨k.1, k.2, h, hb⟩
theorem St0.blk0 {A : Option Addr} (h : St0 S w0 w H) (hb : ∀ a, A = some a → a.block < w0.heap.size) : ∀ a, A = some a → a.block < w.heap.size := fun a ha => Nat.lt_of_lt_of_le (hb a ha) h.size
theorem St0.row_blk {A : Option Addr} {n c e size : Nat} {xs : List Value} (h : St0 S w0 w H) (hH : Has H (.row (.slice A n c) e size n xs)) : ∀ a, A = some a → a.block < w.heap.size := fun a ha => (h.rng _ hH.mem a.block (by subst ha; rfl)).1
theorem St0.box_blk {b T : Nat} {cs : List Value} (h : St0 S w0 w H) (hH : Has H (.box b cs T)) : ∀ a, some (⟨b, 0, none⟩ : Addr) = some a → a.block < w.heap.size := fun a ha => by injection ha with ha; subst ha; exact (h.rng _ hH.mem b rfl).1
theorem SlI.k {α : Type} {e : α → List Value} {A : Option Addr} {c : Nat} {xs : List α} (h : SlI w e A c xs) : xs.length ≤ c ∧ c ≤ maxLen := ⟨h.le, h.cap⟩
theorem SlI.takeI {α : Type} {e : α → List Value} {k c : Nat} (he : ∀ x, (e x).length = k) {A : Option Addr} {xs r : List α} {i : Int} (s : SlI w e A c xs) (h : takeI xs i = some r) : SlI w e A c r := by
  obtain ⟨j, _, _, h1, h2⟩ := takeI_some h
  exact ⟨by have := s.le; omega, s.cap, Rd.takeI he s.rd h, s.blk⟩
theorem SlI.dropI {α : Type} {e : α → List Value} {k c : Nat} (he : ∀ x, (e x).length = k) {A : Option Addr} {xs r : List α} {i : Int} (s : SlI w e A c xs) (h : dropI xs i = some r) : SlI w e (cutA A c i.toNat k) (c - i.toNat) r := by
  obtain ⟨j, h0, _, h1, h2⟩ := dropI_some h
  exact ⟨by have := s.le; omega, by have := s.cap; omega, Rd.dropI he s.rd s.le h, cutA_blk s.blk⟩
theorem k_take {α : Type} {c : Nat} {xs r : List α} {i : Int} (k : xs.length ≤ c ∧ c ≤ maxLen) (h : takeI xs i = some r) : r.length ≤ c ∧ c ≤ maxLen := by obtain ⟨j, _, _, h1, h2⟩ := takeI_some h; exact ⟨by omega, k.2⟩
theorem k_drop {α : Type} {c : Nat} {xs r : List α} {i : Int} (k : xs.length ≤ c ∧ c ≤ maxLen) (h : dropI xs i = some r) : r.length ≤ c - i.toNat ∧ c - i.toNat ≤ maxLen := by obtain ⟨j, h0, _, h1, h2⟩ := dropI_some h; exact ⟨by omega, by omega⟩
variable {dn : Nat} {ty : TypeId} {pos : String} {af : Array Edge} {g : Option (Nat × Bool)} {rest : List Oper}
/-! ### append -/
theorem wpX_append {α : Type} {e : α → List Value} {t te size bytes c0 c : Nat} {z : Value} {s x : Operand} {A0 A : Option Addr} {xs ys zs : List α} {Hf : Value → List Ent} (he : ∀ x, (e x).length = size) (h1 : ∀ l : List α, ∀ u ∈ encs e l, u.oneCell' = true) (E : Elem P t te z size bytes) (hbz : bytes ≤ 100000)
    (hg : wantB ops L g = some true) (hN : Nat.ble (dn + 1) N.n = true) (hs : ev L s = some (.slice A0 xs.length c0)) (hx : ev L x = some (.slice A ys.length c)) (hS : St0 S w0 w H) (hH : ∀ v', Pos H (.row (.slice A0 xs.length c0) te size xs.length (encs e xs)) (Hf v') (.row v' te size zs.length (encs e zs)))
    (hr : Rd w A (encs e ys)) (hf : fewI (xs ++ ys) = some zs)
    (k : ∀ A' c' w', (zs.length ≤ c' ∧ c' ≤ maxLen) → St0 S w0 w' (Hf (.slice A' zs.length c')) → wpS P ops Q rest N ((dn, .slice A' zs.length c') :: L) w') :
    wpS P ops Q (⟨some dn, .call { callee := .builtin .append, args := #[s, x], argTypes := #[t, t] }, ty, pos, af, g⟩ :: rest) N L w := by
  obtain ⟨rfl, hl⟩ := fewI_some hf
  rw [List.length_append] at hl
  have hb : (xs.length + ys.length) * bytes ≤ 140737488355328 := Nat.le_trans (Nat.mul_le_mul hl hbz) (by omega)
  have hH' : ∀ v', Pos H (.row (.slice A0 xs.length c0) te size xs.length (encs e xs)) (Hf v') (.row v' te size (xs ++ ys).length (encs e xs ++ encs e ys)) := fun v' => by have := hH v'; rwa [encs_app] at this
  refine wpS_append (n' := (xs ++ ys).length) E hg hN hs hx hS hH' hr (encs_length he ys) (h1 ys) (List.length_append ..) (by rw [List.length_append]; unfold maxLen; omega) (by rw [List.length_append]; exact hb) (fun A' c' w' k1 k2 hS => k A' c' w' ⟨k1, k2⟩ hS)
theorem setI_len {α : Type} {l : List α} {i : Int} {a : α} {n : Nat} (h : l.length = n) : (setI l i a).length = n := by unfold setI; rw [List.length_set]; exact h
theorem k_set {α : Type} {l : List α} {i : Int} {a : α} {c : Nat} (h : l.length ≤ c ∧ c ≤ maxLen) : (setI l i a).length ≤ c ∧ c ≤ maxLen := by rw [setI_len rfl]; exact h
theorem he_enI : ∀ x, (enI x).length = 0 + 1 := fun _ => rfl
theorem he_enY : ∀ x, (enY x).length = 0 + 1 := fun _ => rfl
theorem oc_of {α : Type} {e : α → List Value} (h : ∀ x, (e x).all (·.oneCell') = true) (l : List α) : ∀ u ∈ encs e l, u.oneCell' = true := fun u hu => by
  obtain ⟨x, _, hx⟩ := List.mem_flatMap.1 hu
  exact List.all_eq_true.1 (h x) u hx
theorem oc_enI : ∀ l : List Int, ∀ u ∈ encs enI l, u.oneCell' = true := oc_of fun _ => rfl
theorem oc_enY : ∀ l : List UInt8, ∀ u ∈ encs enY l, u.oneCell' = true := oc_of fun _ => rfl
end
end Go.Proofs.YtofheinbbefbcaaDoor
/- What layer 12's rows share. -/
namespace Go.Proofs.YtofheinbbefbcaaDoor
open Go Go.ChangeShapes Go.WideShapes Go.ChangeAt Go.RowKit
set_option maxRecDepth 100000
theorem own : ownKnob Tryd.prog.godebug = none := by kernel_rfl
theorem laidOut : laidOutB Tryd.prog = true := by kernel_rfl
/-- A slice that is an argument lies in the world. -/
theorem okWide_blk {P : Program} {W : World} {base : Nat} {t e : TypeId} {n c : Nat} {A : Option Addr} (ht : P.underlying t = some (.slice e)) (h : Value.okWide P W .any base t (.slice A n c)) : ∀ a, A = some a → a.block < W.heap.size := by
  intro a ha
  subst ha
  simp only [Value.okWide, ht, Cell.okWide, Cell.ok, World.has] at h
  obtain ⟨_, _, _, _, row, cells, hsh, _⟩ := h
  unfold World.shape? at hsh
  rcases Nat.lt_or_ge a.block W.heap.size with hlt | hge
  · exact hlt
  · rw [Array.getElem?_eq_none hge] at hsh
    simp at hsh
theorem Calls.pure0 {P : Program} {f : Nat} {args : Array Value} {w : World} {v : Value} (h : Calls P f args w fun e w' => e = .returned v ∧ St0 All w w' []) : Calls P f args w fun e w' => e = .returned v ∧ Below w.heap.size w w' := h.mono fun _ _ h => ⟨h.1, h.2.pure⟩
end Go.Proofs.YtofheinbbefbcaaDoor
/- Laws for walks that a program of mine prints, third part: stores into rows, make, arrays, loops gone through once. -/
namespace Go.Proofs.YtofheinbbefbcaaDoor
open Go Go.RowKit
set_option maxRecDepth 100000
def setAt : List Value → Nat → List Value → List Value
  | xs, _, [] => xs
  | xs, o, v :: vs => setAt (xs.set o v) (o + 1) vs
theorem setAt_cons (x : Value) : ∀ (vs xs : List Value) (o : Nat), setAt (x :: xs) (o + 1) vs = x :: setAt xs o vs
  | [], _, _ => rfl
  | v :: vs, xs, o => by simp only [setAt, List.set_cons_succ]; exact setAt_cons x vs _ _
theorem setAt_pre : ∀ (p xs : List Value) (o : Nat) (vs : List Value), setAt (p ++ xs) (p.length + o) vs = p ++ setAt xs o vs
  | [], xs, o, vs => by simp
  | x :: p, xs, o, vs => by
    rw [List.cons_append, List.length_cons, show p.length + 1 + o = (p.length + o) + 1 by omega, setAt_cons, setAt_pre p xs o vs]; rfl
theorem setAt_post : ∀ (vs xs q : List Value) (o : Nat), o + vs.length ≤ xs.length → setAt (xs ++ q) o vs = setAt xs o vs ++ q
  | [], _, _, _, _ => rfl
  | v :: vs, xs, q, o, h => by
    simp only [List.length_cons] at h
    simp only [setAt]
    rw [List.set_append_left _ _ (by omega), setAt_post vs (xs.set o v) q (o + 1) (by rw [List.length_set]; omega)]
theorem setAt_ovr {cs vs cs' : List Value} (h : Ovr cs vs cs') : setAt cs 0 vs = cs' := by
  induction h with
  | nil => rfl
  | @cons c v cs vs cs' h ih => simp only [setAt, List.set_cons_zero]; rw [setAt_cons, ih]
theorem setAt_setC {cs vs cs' : List Value} {o : Nat} (h : SetC cs o vs cs') : setAt cs o vs = cs' := by
  induction h with
  | here h => exact setAt_ovr h
  | succ h ih => rw [setAt_cons, ih]
theorem encs_set {α : Type} {e : α → List Value} {k : Nat} (he : ∀ x, (e x).length = k) {l : List α} {j f : Nat} {a a' : α} {vs : List Value} (ha : l[j]? = some a) (hc : SetC (e a) f vs (e a')) : setAt (encs e l) (j * k + f) vs = encs e (l.set j a') := by
  have hj := (List.getElem?_eq_some_iff.1 ha).1
  have h1 : l = l.take j ++ a :: l.drop (j + 1) := by
    conv => lhs; rw [← List.take_append_drop j l]
    rw [List.drop_eq_getElem_cons hj, (List.getElem?_eq_some_iff.1 ha).2]
  have h2 : l.set j a' = l.take j ++ a' :: l.drop (j + 1) := by
    conv => lhs; rw [h1]
    have hl : (l.take j).length = j := by rw [List.length_take]; omega
    rw [List.set_append_right _ _ (by omega), hl, Nat.sub_self]; rfl
  have hp : (encs e (l.take j)).length = j * k := by rw [encs_length he, List.length_take, Nat.min_eq_left (by omega)]
  have hlen : f + vs.length ≤ (e a).length := hc.spec.2.1
  rw [h2, encs_app, encs_cons]
  conv => lhs; rw [h1, encs_app, encs_cons, ← hp]
  rw [setAt_pre, setAt_post vs (e a) _ f hlen, setAt_setC hc]
theorem there_row {w : World} {g n cap e size : Nat} {xs : List Value} (h : w.ownsRow 0 e size (.slice (some ⟨g, 0, none⟩) n cap) n xs) {o m : Nat} (hm : o + m ≤ xs.length) : w.there g o m := fun j hj => by
  rcases h.2 with ⟨h', _⟩ | ⟨g', cap', cur, h', _, hg, hnc, _, hcs, htake⟩
  · simp at h'
  · simp only [Value.slice.injEq, Option.some.injEq, Addr.mk.injEq, and_true, true_and] at h'
    obtain ⟨rfl, rfl⟩ := h'
    have hl : xs.length ≤ cur.size := by rw [← htake, List.length_take]; simp; omega
    refine ⟨?_, by simp [World.frozen?, hg]⟩
    rw [cell_of_row w g (o + j) cur e (0, 0) hg]
    simp
    omega
theorem row_setCells (g e size n cap : Nat) : ∀ (vs : List Value) (o : Nat) (w : World) (xs : List Value), w.ownsRow 0 e size (.slice (some ⟨g, 0, none⟩) n cap) n xs → (w.setCells g o vs).ownsRow 0 e size (.slice (some ⟨g, 0, none⟩) n cap) n (setAt xs o vs)
  | [], _, _, _, h => h
  | v :: vs, o, w, xs, h => by
    rw [World.setCells]
    exact row_setCells g e size n cap vs (o + 1) _ _ (h.stored o v).1
section
variable {P : Program} {ro : Option Nat} {ops : Array Oper} {Q : Exit → Act → World → Prop} {rest : List Oper} {N : FS} {L : List (Nat × Value)} {w w0 : World} {S : Nat → Prop} {H H' : List Ent} {dn : Nat} {ty : TypeId} {pos : String} {af : Array Edge} {g : Option (Nat × Bool)} {R : World → Prop} {d : Option Nat}
/-- A store into an element of a row of one's own. -/
theorem wpX_storeR {α : Type} {e : α → List Value} {k te T j f n c : Nat} {x y : Operand} {A : Option Addr} {l zs : List α} {a a' : α} {i : Int} {v : Value} {vs : List Value} (he : ∀ x, (e x).length = k) (hg : wantB ops L g = some true) (hx : ev L x = some (.pointer (A.map (·.add (j * k + f))))) (hy : ev L y = some v) (hv : CellsOf v vs)
    (hS : St0 S w0 w H) (hH : Pos H (.row (.slice A n c) te k n (encs e l)) H' (.row (.slice A n c) te k n (encs e zs))) (hA : El w A (j * k) (e a)) (hij : i = (j : Int)) (ha : l[j]? = some a) (hz : zs = setI l i a') (hc : SetC (e a) f vs (e a')) (hi : (P.info? T).map (·.size) = some vs.length) (h1 : vs.all (·.oneCell') = true)
    (kk : ∀ w', St0 S w0 w' H' → wpS P ops Q rest N L w') : wpS P ops Q (⟨none, .store T x y, ty, pos, af, g⟩ :: rest) N L w := by
  obtain ⟨b, q, rfl⟩ := hA.adr
  obtain ⟨ix, hi1, hH'⟩ := hH.set
  have hown : w.ownsRow 0 te k (.slice (some ⟨b, q, none⟩) n c) n (encs e l) := hS.ok _ (List.mem_of_getElem? hi1)
  obtain rfl : q = 0 := by
    rcases hown.2 with ⟨h', _⟩ | ⟨g', cap', cur, h', _⟩
    · simp at h'
    · simp only [Value.slice.injEq, Option.some.injEq, Addr.mk.injEq, and_true, true_and] at h'; exact h'.1.2
  have hlen : f + vs.length ≤ (e a).length := hc.spec.2.1
  have hjl := (List.getElem?_eq_some_iff.1 ha).1
  have hfit : j * k + f + vs.length ≤ (encs e l).length := by
    rw [encs_length he]
    rw [he] at hlen
    have : (j + 1) * k ≤ l.length * k := Nat.mul_le_mul_right k hjl
    rw [Nat.succ_mul] at this
    omega
  have ht : w.there b (j * k + f) vs.length := there_row hown hfit
  have hzz := size_setCells b vs (j * k + f) w
  have hnew : (w.setCells b (j * k + f) vs).ownsRow 0 te k (.slice (some ⟨b, 0, none⟩) n c) n (encs e zs) := by
    have := row_setCells b te k n c vs (j * k + f) w _ hown
    rw [encs_set he ha hc] at this
    subst hij
    rw [hz]
    exact this
  simp only [Option.map_some, Addr.add_mid, Nat.zero_add] at hx
  rw [hH'] at kk
  refine wpS_run0 hg rfl (fun ρ hρ => ?_) (kk (w.setCells b (j * k + f) vs) (hS.change ix hi1 (by rw [hzz.1]; exact Nat.le_refl _) hzz.2 (fun k' hk _ => heap_setCells b vs _ w k' (fun h => hk (by subst h; rfl))) hnew (fun k' hk => .inl hk)))
  simp only [execOp, hρ x _ hx, hρ y _ hy, Sem.run_bind, store_run hv ht hi h1, Result.andThen_ok, Sem.run_pure]
/-- A loop gone through some times, each round walked. -/
def Rn (P : Program) (ro : Option Nat) (c : Code) (Q : Exit → Act → World → Prop) : Nat → Act → World → Prop
  | 0, _, _ => False
  | n + 1, a, w => wpo P ro c (Exit.then (Rn P ro c Q n) Q) a w
theorem wpo_rounds {c : Code} (n : Nat) {a : Act} (h : Rn P ro c Q n a w) : wpo P ro (.loop c) Q a w := by
  classical
  have hmin : ∀ a w, (∃ n, Rn P ro c Q n a w) → ∃ m, Rn P ro c Q m a w ∧ ∀ k, Rn P ro c Q k a w → m ≤ k := fun a w ⟨n, hn⟩ => by
    induction n using Nat.strongRecOn with
    | _ n ih =>
      by_cases h : ∃ k, k < n ∧ Rn P ro c Q k a w
      · obtain ⟨k, hk, hp⟩ := h; exact ih k hk hp
      · exact ⟨n, hn, fun k hk => Nat.le_of_not_lt fun hlt => h ⟨k, hlt, hk⟩⟩
  let M : Act → World → Nat := fun a w => if h : ∃ n, Rn P ro c Q n a w then (hmin a w h).choose else 0
  refine wpo_loop (fun a w => ∃ n, Rn P ro c Q n a w) M ⟨n, h⟩ fun a w hex => ?_
  obtain ⟨hm, _⟩ := (hmin a w hex).choose_spec
  have hMa : M a w = (hmin a w hex).choose := by simp only [M, dif_pos hex]
  rw [hMa]
  generalize (hmin a w hex).choose = m at hm
  cases m with
  | zero => exact hm.elim
  | succ m =>
    refine wpo_mono hm fun e a' w' he => ?_
    cases e with
    | normal =>
      have hex' : ∃ n, Rn P ro c Q n a' w' := ⟨m, he⟩
      refine ⟨hex', ?_⟩
      have := (hmin a' w' hex').choose_spec.2 m he
      have hMa' : M a' w' = (hmin a' w' hex').choose := by simp only [M, dif_pos hex']
      omega
    | _ => exact he
theorem wpC_rounds (n : Nat) {c : Code} (k : wpC P ro c (Exit.then (Rn P ro c Q n) Q) N L w) : wpC P ro (.loop c) Q N L w := .mk fun a hF => wpo_rounds (n + 1) (k.go a hF)
theorem QH_more {n : Nat} {c : Code} {Q' : Exit → Act → World → Prop} (k : wpC P ro c (Exit.then (Rn P ro c Q n) Q) N L w) : QH (Exit.then (Rn P ro c Q (n + 1)) Q') .normal N L w := .mk k.go
end
end Go.Proofs.YtofheinbbefbcaaDoor
/- The walks of tuples: what may be. -/
namespace Go.Proofs.YtofheinbbefbcaaDoor
open Go Go.RowKit
set_option maxRecDepth 100000

end Go.Proofs.YtofheinbbefbcaaDoor
/- The walks of tuples: what is told of a panic. -/
namespace Go.Proofs.YtofheinbbefbcaaDoor
open Go Go.RowKit
set_option maxRecDepth 100000

end Go.Proofs.YtofheinbbefbcaaDoor
/- Slices of entries: copied, put together, compared. -/
namespace Go.Proofs.YtofheinbbefbcaaDoor
open Go Go.RowKit
set_option maxRecDepth 100000

-- @EQ eqEn eqSt
theorem eqEn (w : World) (a b : En) : (Op.equalIn 10000 40 (.agg #[.int .i64 a.term, .int .i64 a.kind, .int .i64 a.value]) (.agg #[.int .i64 b.term, .int .i64 b.kind, .int .i64 b.value])).run Tryd.prog w = .ok (decide (a = b)) w := run_eq_entry w a b
theorem eqSt (w : World) (a b : St) : (Op.equalIn 10000 124 (.agg #[.int .i64 a.index, .int .i64 a.term, .int .i64 a.sum, .int .i64 a.level, .bool a.final]) (.agg #[.int .i64 b.index, .int .i64 b.term, .int .i64 b.sum, .int .i64 b.level, .bool b.final])).run Tryd.prog w = .ok (decide (a = b)) w := run_eq_state w a b
section
variable {P : Program} {ops : Array Oper} {Q : Exit → Act → World → Prop} {rest : List Oper} {N : FS} {L : List (Nat × Value)} {w w0 : World} {S : Nat → Prop} {H : List Ent} {dn : Nat} {ty : TypeId} {pos : String} {af : Array Edge} {g : Option (Nat × Bool)}
end
end Go.Proofs.YtofheinbbefbcaaDoor
/- The walks of tuples: a copy, what may be, what is changed. -/
namespace Go.Proofs.YtofheinbbefbcaaDoor
open Go Go.RowKit
set_option maxRecDepth 100000

/-- A log as it lies in memory. -/
structure LI (w : World) (A : Option Addr) (n c : Nat) (l : List En) : Prop where
  len : l.length = n
  small : n ≤ 1000000
  le : n ≤ c
  cap : c ≤ maxLen
  rd : Rd w A (ens l)
theorem LI.below {w w' : World} {A : Option Addr} {n c : Nat} {l : List En} (h : LI w A n c l) (hb : Below w.heap.size w w') : LI w' A n c l := ⟨h.len, h.small, h.le, h.cap, h.rd.below hb⟩
theorem LI.keep {w w' : World} {S : Nat → Prop} {A : Option Addr} {n c : Nat} {l : List En} (h : LI w A n c l) (hk : KeepB S w w') (hs : ∀ a, A = some a → S a.block) : LI w' A n c l := ⟨h.len, h.small, h.le, h.cap, hk.rd h.rd hs⟩
end Go.Proofs.YtofheinbbefbcaaDoor
/- The walks of tuples: what changes one. -/
namespace Go.Proofs.YtofheinbbefbcaaDoor
open Go Go.RowKit
set_option maxRecDepth 100000

end Go.Proofs.YtofheinbbefbcaaDoor
/- The walks of tuples: Last, At. -/
namespace Go.Proofs.YtofheinbbefbcaaDoor
open Go Go.RowKit
set_option maxRecDepth 100000
end Go.Proofs.YtofheinbbefbcaaDoor
/- The walks of tuples: Append, Cut, Hard. -/
namespace Go.Proofs.YtofheinbbefbcaaDoor
open Go Go.RowKit
set_option maxRecDepth 100000

theorem Rd.blk {w : World} {A : Option Addr} {xs : List Value} (h : Rd w A xs) (hne : xs ≠ []) : ∀ a, A = some a → a.block < w.heap.size := fun a ha => by
  cases xs with
  | nil => exact (hne rfl).elim
  | cons v xs =>
    obtain ⟨b, o, hA, hb, _⟩ := h 0 v rfl
    rw [ha] at hA
    injection hA with hA
    subst hA
    exact hb
end Go.Proofs.YtofheinbbefbcaaDoor
/- The walks of tuples: TermAt, save, Save, Cut, Install, Hard. -/
namespace Go.Proofs.YtofheinbbefbcaaDoor
open Go Go.RowKit
set_option maxRecDepth 100000

end Go.Proofs.YtofheinbbefbcaaDoor
/- The walks of tuples: Save, Cut, Install, Hard. -/
namespace Go.Proofs.YtofheinbbefbcaaDoor
open Go Go.RowKit
set_option maxRecDepth 100000
set_option maxHeartbeats 1000000

end Go.Proofs.YtofheinbbefbcaaDoor
/- The walks of tuples: State, First. -/
namespace Go.Proofs.YtofheinbbefbcaaDoor
open Go Go.RowKit
set_option maxRecDepth 100000

end Go.Proofs.YtofheinbbefbcaaDoor
/- What the functions of entries and tuples compute that are walked by hand, in the form of the printed contracts. -/
namespace Go.Proofs.YtofheinbbefbcaaDoor
open Go Go.RowKit
set_option maxRecDepth 100000
end Go.Proofs.YtofheinbbefbcaaDoor
/- Numbers as bytes: in plain Lean, no program in sight. -/
namespace Go.Proofs.YtofheinbbefbcaaDoor

/-- What is no number. -/
def badN (n : Int) : Bool := decide (n < 0) || decide (1073741824 < n)
def isN (l : List Int) : Bool := !(l.any badN)
theorem badN_false {n : Int} : badN n = false ↔ 0 ≤ n ∧ n ≤ 1073741824 := by simp [badN]
theorem badN_true {n : Int} : badN n = true ↔ n < 0 ∨ 1073741824 < n := by simp [badN]
theorem any_take_succ (l : List Int) (k : Nat) (x : Int) (h : l[k]? = some x) (h0 : (l.take k).any badN = false) (hx : badN x = false) : (l.take (k + 1)).any badN = false := by
  rw [List.take_add_one, h]; simp only [Option.toList_some, List.any_append, h0, List.any_cons, hx, List.any_nil]; rfl
theorem any_of_at (l : List Int) (k : Nat) (x : Int) (h : l[k]? = some x) (hx : badN x = true) : l.any badN = true :=
  List.any_eq_true.2 ⟨x, List.mem_of_getElem? h, hx⟩

/-- A number's digits to base B, so many below the highest one, the highest first. -/
def digs (B : Nat) : Nat → Nat → List Nat
  | 0, n => [n % B]
  | k + 1, n => n / B ^ (k + 1) % B :: digs B k n
/-- How many digits to base 128 there are below the highest that is none. -/
def topK (n : Nat) : Nat := if n < 128 then 0 else if n < 16384 then 1 else if n < 2097152 then 2 else if n < 268435456 then 3 else 4
/-- Digits, all but the last one marked. -/
def marked : List Nat → List Nat
  | [] => []
  | [d] => [d]
  | d :: e :: l => (d + 128) :: marked (e :: l)
def toB (l : List Nat) : List UInt8 := l.map UInt8.ofNat
def short1 (n : Nat) : List UInt8 := toB (marked (digs 128 (topK n) n))
def shortL (l : List Int) : List UInt8 := l.flatMap fun n => short1 n.toNat
/-- What is told of numbers: bytes, and an error. -/
def errN (l : List Int) : Int := if isN l = true then 0 else 2
def shortR (l : List Int) : List UInt8 := if isN l = true then shortL l else []
theorem digs_length (B k n : Nat) : (digs B k n).length = k + 1 := by
  induction k with
  | zero => rfl
  | succ k ih => simp [digs, ih]
theorem digs_at (B k n i : Nat) (h : i ≤ k) : (digs B k n)[i]? = some (n / B ^ (k - i) % B) := by
  induction k generalizing i with
  | zero => obtain rfl : i = 0 := by omega
            simp [digs]
  | succ k ih =>
    cases i with
    | zero => simp [digs]
    | succ i => simpa [digs] using ih i (by omega)
theorem digs_lt (B k n : Nat) (hB : 0 < B) : ∀ d ∈ digs B k n, d < B := by
  induction k with
  | zero => simp only [digs, List.mem_singleton]; rintro d rfl; exact Nat.mod_lt _ hB
  | succ k ih =>
    simp only [digs, List.mem_cons]
    rintro d (rfl | hd)
    · exact Nat.mod_lt _ hB
    · exact ih d hd
theorem topK_le (n : Nat) : topK n ≤ 4 := by unfold topK; split <;> (try split) <;> (try split) <;> (try split) <;> omega
theorem topK_lt (n : Nat) (h : n ≤ 1073741824) : n < 128 ^ (topK n + 1) := by
  unfold topK
  split
  · simpa
  · split
    · simpa
    · split
      · simpa
      · split
        · simpa
        · simp; omega
theorem topK_ge (n : Nat) (h : 0 < topK n) : 128 ^ topK n ≤ n := by
  unfold topK at *
  split
  · simp_all
  · split
    · simp; omega
    · split
      · simp; omega
      · split
        · simp; omega
        · simp; omega
end Go.Proofs.YtofheinbbefbcaaDoor
/- The walks of numbers: which are numbers. -/
namespace Go.Proofs.YtofheinbbefbcaaDoor
open Go Go.RowKit
set_option maxRecDepth 100000

theorem is1_any (n : Int) (w : World) : Calls Tryd.prog 108 #[.int .i64 n] w fun e w' => e = .returned (.bool (badN n)) ∧ w' = w := by
  rcases Int.lt_or_le n 0 with hx | hx
  · have H := Lib.hid (badN_true.2 (.inl hx))
    go_enter Tryd.func108, Tryd.ntmps108
    go_wp2
    go_ret
    exact ⟨ret_bool (by rw [H.out]), rfl⟩
  · rcases Int.lt_or_le 1073741824 n with hy | hy
    · have H := Lib.hid (badN_true.2 (.inr hy))
      go_enter Tryd.func108, Tryd.ntmps108
      go_wp2
      go_ret
      exact ⟨ret_bool (by rw [H.out]; try (simp; try omega)), rfl⟩
    · have H := Lib.hid (badN_false.2 ⟨hx, hy⟩)
      go_enter Tryd.func108, Tryd.ntmps108
      go_wp2
      go_ret
      exact ⟨ret_bool (by rw [H.out]; try (simp; try omega)), rfl⟩

set_option maxHeartbeats 1000000 in
theorem index_any (A : Option Addr) (c : Nat) (l : List Int) (hl : l.length ≤ 1099511627776) (w : World) (hA : Rd w A (ivs l)) :
    Calls Tryd.prog 112 #[.slice A l.length c, .func (.func 108) #[] #[]] w fun e w' => ∃ r : Int, e = .returned (.int .i64 r) ∧ (-1 ≤ r ∧ r ≤ l.length) ∧ decide (0 ≤ r) = l.any badN ∧ w' = w := by
  go_enter Tryd.func112, Tryd.ntmps112
  go_wp2
  go_loop [5, 8] (fun _ i => ∃ k : Nat, k ≤ l.length ∧ i = .int .i64 k ∧ (l.take k).any badN = false) (fun _ i => l.length - (intOf i).toNat)
  case atStart => exact ⟨0, by omega, rfl, rfl⟩
  case round =>
    obtain ⟨k, hk, rfl, h0⟩ := hrel
    by_cases hk4 : k < l.length
    · obtain ⟨b, o, x, rfl, hb, hc, hx⟩ := hA.int hk4
      by_cases hbx : badN x = true
      · have Hx := Lib.hid hbx
        clear hbx
        go_wp2_with (go_at_call 108; refine (is1_any x _).mono ?_; rintro e w1 ⟨rfl, rfl⟩; rw [Hx.out])
        go_ret
        exact ⟨_, rfl, by omega, by rw [any_of_at l k x hx Hx.out]; simp, rfl⟩
      · have Hx := Lib.hid (show badN x = false by simpa using hbx)
        clear hbx
        go_wp2_with (go_at_call 108; refine (is1_any x _).mono ?_; rintro e w1 ⟨rfl, rfl⟩; rw [Hx.out])
        go_round
        case rel => exact ⟨k + 1, by omega, by go_num, any_take_succ l k x hx h0 Hx.out⟩
        case measure => simp [intOf]; omega
    · obtain rfl : k = l.length := by omega
      rw [List.take_length] at h0
      have H0 := Lib.hid h0
      clear h0
      go_wp2
      go_ret
      exact ⟨_, rfl, by omega, by rw [H0.out]; simp, rfl⟩

theorem contains_any (A : Option Addr) (c : Nat) (l : List Int) (hl : l.length ≤ 1099511627776) (w : World) (hA : Rd w A (ivs l)) :
    Calls Tryd.prog 107 #[.slice A l.length c, .func (.func 108) #[] #[]] w fun e w' => e = .returned (.bool (l.any badN)) ∧ w' = w := by
  obtain ⟨res, hres⟩ : ∃ r, r = l.any badN := ⟨_, rfl⟩
  rw [← hres]
  have Hr := Lib.hid hres
  clear hres
  go_enter Tryd.func107, Tryd.ntmps107
  go_wp2_with (go_at_call 112; refine (index_any A c l hl _ hA).mono ?_; rintro e w1 ⟨r, rfl, hr, hd, rfl⟩; rw [← Hr.out] at hd; replace hd := Lib.hid hd)
  go_ret
  exact ⟨ret_bool (by rw [← hd.out]; try simp), rfl⟩

theorem is_any (A : Option Addr) (n c : Nat) (l : List Int) (hn : n = l.length) (hl : l.length ≤ 1099511627776) (w : World) (hA : Rd w A (ivs l)) :
    Calls Tryd.prog 88 #[.slice A n c] w fun e w' => e = .returned (.bool (isN l)) ∧ w' = w := by
  subst hn
  have H := Lib.hid (show isN l = !(l.any badN) from rfl)
  go_enter Tryd.func88, Tryd.ntmps88
  go_wp2_with (go_at_call 107; refine (contains_any A c l hl _ hA).mono ?_; rintro e w1 ⟨rfl, rfl⟩)
  go_ret
  exact ⟨ret_bool (by rw [H.out]), rfl⟩

set_option maxHeartbeats 1000000 in
theorem isR_any (A : Option Addr) (n c : Nat) (l : List Int) (hn : n = l.length) (hl : l.length ≤ 1099511627776) (w : World) (hA : Rd w A (ivs l)) :
    Calls Tryd.prog 82 #[.slice A n c] w fun e w' => e = .returned (.bool (isN l)) ∧ w' = w := by
  subst hn
  obtain ⟨res, hres⟩ : ∃ r, r = isN l := ⟨_, rfl⟩
  rw [← hres]
  have H := Lib.hid (show res = !(l.any badN) from hres)
  clear hres
  go_enter Tryd.func82, Tryd.ntmps82
  go_wp2
  go_loop [3] (fun i => ∃ k : Nat, k ≤ l.length ∧ i = .int .i64 k ∧ (l.take k).any badN = false) (fun i => l.length - (intOf i).toNat)
  case atStart => exact ⟨0, by omega, rfl, rfl⟩
  case round =>
    obtain ⟨k, hk, rfl, h0⟩ := hrel
    have H0 := Lib.hid h0
    clear h0
    by_cases hk4 : k < l.length
    · obtain ⟨b, o, x, rfl, hb, hc, hx⟩ := hA.int hk4
      have Hk := Lib.hid hx
      clear hx
      rcases Int.lt_or_le x 0 with hx | hx
      · go_wp2
        go_ret
        exact ⟨ret_bool (by rw [H.out, any_of_at l k x Hk.out (badN_true.2 (.inl hx))]; rfl), rfl⟩
      · rcases Int.lt_or_le 1073741824 x with hy | hy
        · go_wp2
          go_ret
          exact ⟨ret_bool (by rw [H.out, any_of_at l k x Hk.out (badN_true.2 (.inr hy))]; rfl), rfl⟩
        · go_wp2
          go_round
          case rel => exact ⟨k + 1, by omega, by go_num, any_take_succ l k x Hk.out H0.out (badN_false.2 ⟨hx, hy⟩)⟩
          case measure => simp [intOf]; omega
    · obtain rfl : k = l.length := by omega
      have H1 := Lib.hid (show l.any badN = false by simpa using H0.out)
      clear H0
      go_wp2
      go_ret
      exact ⟨ret_bool (by rw [H.out, H1.out]; rfl), rfl⟩
end Go.Proofs.YtofheinbbefbcaaDoor
/- The walks of numbers: the iterator over digits. -/
namespace Go.Proofs.YtofheinbbefbcaaDoor
open Go Go.RowKit Go.Shelf
set_option maxRecDepth 100000
attribute [local go_sem] Oper.semAt_some

theorem elemB : Elem Tryd.prog 23 5 (.int .u8 0) 1 1 := ⟨Tryd.underlying23, by kernel_rfl, rfl, by omega⟩
set_option maxHeartbeats 400000 in
theorem nclone_any (A : Option Addr) (c : Nat) (l : List UInt8) (hl : l.length ≤ 1099511627776) (w : World) (hA : Rd w A (bvs l)) :
    Calls Tryd.prog 89 #[.slice A l.length c] w fun e w' => ∃ v, e = .returned v ∧ w'.ownsRow w.heap.size 5 1 v l.length (bvs l) ∧ Below w.heap.size w w' := by
  rcases A with _ | ad
  · obtain rfl : l = [] := hA.none_bytes
    have en := Lib.run_eql_slice_nil (P := Tryd.prog) w 23 5 none 0 c 0 0 Tryd.underlying23
    go_enter Tryd.func89, Tryd.ntmps89
    go_wp2
    go_returns
    exact ⟨_, rfl, World.ownsRow_nil _ _ _ _, Below.refl _ _⟩
  · have en := Lib.run_eql_slice_nil (P := Tryd.prog) w 23 5 (some ad) l.length c 0 0 Tryd.underlying23
    have hown0 := World.ownsRow_lit (base := w.heap.size) (e := 5) (size := 1) w #[] 0 (Nat.le_refl _) (by simp [maxLen]) rfl
    go_enter Tryd.func89, Tryd.ntmps89
    go_wp2_with (at_builtin; refine list_append_rd (news := bvs l) rfl (.tmp 5) (.tmp 6) rfl elemB rfl hown0 rfl (by rw [bvs_length]; omega) (hA.below ((Below.refl _ _).alloc (Nat.le_refl _) _)) (bvs_one l) (by unfold maxLen; omega) (by omega) (by simp) ?_; intro v' w1 hown hg _)
    go_returns
    refine ⟨v', rfl, by simpa using hown, bGrow ((Below.refl _ _).alloc (Nat.le_refl _) _) hg (by simp) hown0⟩

theorem digits_any (n b m : Int) (f : Bool) (w : World) :
    Calls Tryd.prog 81 #[.int .i64 n, .int .i64 b, .int .i64 m, .bool f] w fun e w' =>
      e = .returned (.func (.func 100) #[] #[.pointer (some ⟨w.heap.size + 2, 0, none⟩), .pointer (some ⟨w.heap.size, 0, none⟩), .pointer (some ⟨w.heap.size + 1, 0, none⟩), .pointer (some ⟨w.heap.size + 3, 0, none⟩)]) ∧
      w' = (((w.alloc (.cells #[.int .i64 n] 3)).alloc (.cells #[.int .i64 b] 3)).alloc (.cells #[.int .i64 m] 3)).alloc (.cells #[.bool f] 4) := by
  go_enter Tryd.func81, Tryd.ntmps81
  go_wp2
  go_ret
  exact ⟨by simp [Nat.add_assoc], rfl⟩
end Go.Proofs.YtofheinbbefbcaaDoor
