/- Arguments opened: a slice of bytes, of integers; an array of bytes. -/
import Derived.Test.YtefpagijgiggmabBase
import Derived.ProofKit
import Derived.OpenShut
namespace Go.Proofs.Ytefpagijgiggmab
open Go Go.ChangeShapes Go.WideShapes Go.ChangeAt Go.RowKit

section
variable {H : Type} {enc : TypeId × Value → H} {P : Program} {W : World} {base : Nat}

theorem open_bytes_rd {t e : TypeId} (ht : P.underlying t = some (.slice e)) (he : P.underlying e = some (.int .u8)) (hc : P.cellsOf e = 1) {v : Value} {d : DataW H} {p : List MemPlace} (hval : Value.okWide P W .any base t v) (h1 : DataW.Trod enc P W 0 (fun _ => true) true t v d p) :
    ∃ A c, ∃ l : List UInt8, v = .slice A l.length c ∧ l.length ≤ c ∧ c ≤ maxLen ∧ Rd W A (bvs l) := by
  obtain ⟨a1, len, cap, rfl⟩ := okWide_slice ht hval
  obtain ⟨fuel, hf⟩ := h1
  rcases open_ints ht he hc hf with ⟨hcs, hx⟩ | ⟨a, len', cap', zs, hcs, _, hl, hm, hz, hx, hcell, hwz⟩
  · simp [Value.cells] at hcs
    obtain ⟨rfl, rfl, rfl⟩ := hcs
    exact ⟨none, 0, [], rfl, Nat.le_refl _, Nat.zero_le _, Rd.nil _ _⟩
  · simp [Value.cells] at hcs
    obtain ⟨rfl, rfl, rfl⟩ := hcs
    simp only [if_true] at hz
    have hlen : ((zs.take len).map fun n => UInt8.ofNat n.toNat).length = len := by simp; omega
    refine ⟨some a, cap, (zs.take len).map fun n => UInt8.ofNat n.toNat, by rw [hlen], by omega, hm, fun j u hj => ?_⟩
    simp only [bvs, List.map_map, List.getElem?_map, Option.map_eq_some_iff] at hj
    obtain ⟨n, hn, rfl⟩ := hj
    have hjl : j < (zs.take len).length := (List.getElem?_eq_some_iff.1 hn).1
    have hjz : j < zs.length := by simp at hjl; omega
    have hn' : zs[j]? = some n := by
      rw [List.getElem?_take] at hn
      split at hn
      · exact hn
      · cases hn
    obtain ⟨ab, ao, spot⟩ := a
    have hspot : spot = none := by simpa [Addr.add] using World.cell?_spot (hcell 0 (by omega))
    subst hspot
    have hcj := hcell j hjz
    rw [Addr.add_lit] at hcj
    have hb := range_u8 hwz j
    rw [List.getD_eq_getElem?_getD, hn'] at hcj
    rw [hn'] at hb
    simp only [Option.getD_some] at hcj hb
    refine ⟨ab, ao, rfl, World.block_lt_of_cell? W _ hcj, ?_⟩
    rw [hcj]
    simp only [Function.comp, bv, UInt8.toNat_ofNat']
    congr 2
    omega

theorem one_u8 {e : TypeId} (he : P.underlying e = some (.int .u8)) {b0 : Nat} {sp : Nat → Bool} {held : Bool} {fuel : Nat} {v : Value} {y : DataW H × List MemPlace} (h : DataW.trod enc P W b0 sp held fuel e [v] = some y) : ∃ c : UInt8, v = bv c := by
  obtain ⟨n, h1, _, hw⟩ := DataW.trod_int he h
  injection h1 with h1 _
  subst h1
  have hb := bounds_u8 hw
  refine ⟨UInt8.ofNat n.toNat, ?_⟩
  simp only [bv, UInt8.toNat_ofNat']
  congr 1
  omega
theorem open_arr4 {t e : TypeId} (ht : P.underlying t = some (.array 4 e)) (he : P.underlying e = some (.int .u8)) (hc : P.cellsOf e = 1) (hct : P.cellsOf t = 4) {v : Value} {d : DataW H} {p : List MemPlace} (hval : Value.okWide P W .any base t v) (h1 : DataW.Trod enc P W 0 (fun _ => true) true t v d p) :
    ∃ x y z u : UInt8, v = .agg #[bv x, bv y, bv z, bv u] := by
  simp only [Value.okWide, ht] at hval
  obtain ⟨cs, rfl, hsz, _⟩ := hval
  obtain ⟨fuel, hf⟩ := h1
  obtain ⟨xs, m, _, _, _, hxl, hx⟩ := DataW.trod_array ht hf
  rw [hct] at hsz
  simp only [Value.cells, hc, Nat.mul_one] at hx
  obtain ⟨l⟩ := cs
  match l, hsz with
  | [a, b, c, d], _ =>
    have g : ∀ i, i < 4 → ∃ y, xs[i]? = some y := fun i hi => ⟨xs[i]'(by omega), List.getElem?_eq_getElem (by omega)⟩
    obtain ⟨_, g0⟩ := g 0 (by omega)
    obtain ⟨_, g1⟩ := g 1 (by omega)
    obtain ⟨_, g2⟩ := g 2 (by omega)
    obtain ⟨_, g3⟩ := g 3 (by omega)
    obtain ⟨x, rfl⟩ := one_u8 he ((hx 0 (by omega)).trans g0)
    obtain ⟨y, rfl⟩ := one_u8 he ((hx 1 (by omega)).trans g1)
    obtain ⟨z, rfl⟩ := one_u8 he ((hx 2 (by omega)).trans g2)
    obtain ⟨u, rfl⟩ := one_u8 he ((hx 3 (by omega)).trans g3)
    exact ⟨x, y, z, u, rfl⟩
end
end Go.Proofs.Ytefpagijgiggmab
