/- Rows of bytes opened. -/
import Derived.Test.YtdhgiflmimonlaaDoorCrcTells
import Derived.Test.YtdhgiflmimonlaaDoorOpen
import Derived.Deep.Matrix
namespace Go.Proofs.YtdhgiflmimonlaaDoor
open Go Go.ChangeShapes Go.WideShapes Go.ChangeAt Go.RowKit Go.Deep

section
variable {H : Type} {enc : TypeId × Value → H} {P : Program} {W : World} {base : Nat}
theorem rd_ints {k : IntKind} (hk : k = .u8) {w : World} {A : Option Addr} {L C : Nat} {Z : List Int} (hlc : L ≤ C) (hz : Z.length = C) (hwf : ∀ n ∈ Z, (Lit.int k n).wf = true) (hnil : A = none → C = 0)
    (hc : ∀ a', A = some a' → ∀ c, c < C → w.cell? (a'.add c) = some (.int k (Z.getD c 0))) : ∃ l : List UInt8, l.length = L ∧ Rd w A (bvs l) := by
  subst hk
  refine ⟨(Z.take L).map fun n => UInt8.ofNat n.toNat, by simp; omega, fun j u hj => ?_⟩
  simp only [bvs, List.map_map, List.getElem?_map, Option.map_eq_some_iff] at hj
  obtain ⟨n, hn, rfl⟩ := hj
  have hjl : j < (Z.take L).length := (List.getElem?_eq_some_iff.1 hn).1
  have hjz : j < Z.length := by simp at hjl; omega
  have hn' : Z[j]? = some n := by
    rw [List.getElem?_take] at hn
    split at hn
    · exact hn
    · cases hn
  cases A with
  | none => have := hnil rfl; omega
  | some a =>
    obtain ⟨ab, ao, spot⟩ := a
    have hc0 := hc _ rfl
    have hspot : spot = none := by simpa [Addr.add] using World.cell?_spot (hc0 0 (by omega))
    subst hspot
    have hcj := hc0 j (by omega)
    rw [Addr.add_lit] at hcj
    have hb := range_u8 hwf j
    rw [List.getD_eq_getElem?_getD, hn'] at hcj
    rw [hn'] at hb
    simp only [Option.getD_some] at hcj hb
    refine ⟨ab, ao, rfl, World.block_lt_of_cell? w _ hcj, ?_⟩
    rw [hcj]
    simp only [Function.comp, bv, UInt8.toNat_ofNat']
    congr 2
    omega
theorem open_rows_rd {t e q : TypeId} (ht : P.underlying t = some (.slice e)) (he : P.underlying e = some (.slice q)) (hq : P.underlying q = some (.int .u8)) (ce : P.cellsOf e = 1) (cq : P.cellsOf q = 1)
    {v : Value} {d : DataW H} {p : List MemPlace} (hval : Value.okWide P W .any base t v) (h1 : DataW.Trod enc P W 0 (fun _ => true) true t v d p) :
    ∃ A n c, ∃ ls : List (List UInt8), v = .slice A n c ∧ ls.length = n ∧ IsRowsW W A ls := by
  obtain ⟨a1, len, cap, rfl⟩ := okWide_slice ht hval
  obtain ⟨fuel, hf⟩ := h1
  rcases open_int_rows ht he hq ce cq hf with ⟨hcs, hx⟩ | ⟨a, len', cap', A, L, C, Z, hcs, _, hl, hm, hx, hr⟩
  · simp [Value.cells] at hcs
    obtain ⟨rfl, rfl, rfl⟩ := hcs
    exact ⟨none, 0, 0, [], rfl, rfl, [], rfl, Rd.nil _ _, fun i v l h => by simp at h⟩
  · simp [Value.cells] at hcs
    obtain ⟨rfl, rfl, rfl⟩ := hcs
    have hrow : ∀ r, r < cap → ∃ l : List UInt8, l.length = L r ∧ Rd W (A r) (bvs l) := fun r hrc => by
      obtain ⟨_, h2, h3, h4, h5, h6, h7⟩ := hr r hrc
      exact rd_ints rfl h2 h4 h5 h6 fun a' ha => (h7 a' ha).2
    obtain ⟨f, hfr⟩ : ∃ f : Nat → List UInt8, ∀ r, r < cap → (f r).length = L r ∧ Rd W (A r) (bvs (f r)) :=
      ⟨fun r => if hr : r < cap then (hrow r hr).choose else [], fun r hrc => by simp only [hrc, dif_pos]; exact (hrow r hrc).choose_spec⟩
    obtain ⟨ab, ao, spot⟩ := a
    refine ⟨some ⟨ab, ao, spot⟩, len, cap, (List.range len).map f, rfl, by simp, (List.range len).map fun r => .slice (A r) (L r) (C r), by simp, fun j u hj => ?_, fun i v l h1 h2 => ?_⟩
    · simp only [List.getElem?_map, Option.map_eq_some_iff] at hj
      obtain ⟨j', hj', rfl⟩ := hj
      have hjl : j < len := by have := (List.getElem?_eq_some_iff.1 hj').1; simpa using this
      obtain rfl : j = j' := by rw [List.getElem?_range hjl] at hj'; exact Option.some.inj hj'
      have hc := (hr j (by omega)).1
      have hspot : spot = none := by simpa [Addr.add] using World.cell?_spot (hr 0 (by omega)).1
      subst hspot
      rw [Addr.add_lit] at hc
      exact ⟨ab, ao, rfl, World.block_lt_of_cell? W _ hc, hc⟩
    · simp only [List.getElem?_map, Option.map_eq_some_iff] at h1 h2
      obtain ⟨j', hj', rfl⟩ := h1
      obtain ⟨j2, hj2, rfl⟩ := h2
      obtain rfl : j' = j2 := by rw [hj'] at hj2; exact Option.some.inj hj2
      have hil : j' < len := by have := List.mem_of_getElem? hj'; simpa using this
      obtain ⟨_, h2, h3, _⟩ := hr j' (by omega)
      obtain ⟨f1, f2⟩ := hfr j' (by omega)
      exact ⟨A j', C j', by rw [f1], ⟨by omega, h3⟩, f2⟩
end
end Go.Proofs.YtdhgiflmimonlaaDoor
