/- Arguments opened: a slice of bytes, of integers; an array of bytes. -/
import Derived.Test.YtdhgiflmimonlaaDoorBase
import Derived.ProofKit
import Derived.OpenShut
namespace Go.Proofs.YtdhgiflmimonlaaDoor
open Go Go.ChangeShapes Go.WideShapes Go.ChangeAt Go.RowKit

section
variable {H : Type} {enc : TypeId × Value → H} {P : Program} {W : World} {base : Nat}

theorem open_bytes_rd {t e : TypeId} (ht : P.underlying t = some (.slice e)) (he : P.underlying e = some (.int .u8)) (hc : P.cellsOf e = 1) {v : Value} {d : DataW H} {p : List MemPlace} (hval : Value.okWide P W .any base t v) (h1 : DataW.Trod enc P W 0 (fun _ => true) true t v d p) :
    ∃ A c, ∃ l : List UInt8, v = .slice A l.length c ∧ l.length ≤ c ∧ c ≤ maxLen ∧ Rd W A (bvs l) := by
  obtain ⟨a1, len, cap, rfl⟩ := okWide_slice ht hval
  obtain ⟨fuel, hf⟩ := h1
  rcases open_ints ht he hc hf with ⟨hcs, hx⟩ | ⟨a, len', cap', zs, hcs, _, hl, hm, hz, hx, hcell, hwz⟩
  · simp [Value.cells] at hcs
    obtain ⟨rfl, rfl, rfl⟩ := hcs
    exact ⟨none, 0, [], rfl, Nat.le_refl _, Nat.zero_le _, Rd.nil _ _⟩
  · simp [Value.cells] at hcs
    obtain ⟨rfl, rfl, rfl⟩ := hcs
    simp only [if_true] at hz
    have hlen : ((zs.take len).map fun n => UInt8.ofNat n.toNat).length = len := by simp; omega
    refine ⟨some a, cap, (zs.take len).map fun n => UInt8.ofNat n.toNat, by rw [hlen], by omega, hm, fun j u hj => ?_⟩
    simp only [bvs, List.map_map, List.getElem?_map, Option.map_eq_some_iff] at hj
    obtain ⟨n, hn, rfl⟩ := hj
    have hjl : j < (zs.take len).length := (List.getElem?_eq_some_iff.1 hn).1
    have hjz : j < zs.length := by simp at hjl; omega
    have hn' : zs[j]? = some n := by
      rw [List.getElem?_take] at hn
      split at hn
      · exact hn
      · cases hn
    obtain ⟨ab, ao, spot⟩ := a
    have hspot : spot = none := by simpa [Addr.add] using World.cell?_spot (hcell 0 (by omega))
    subst hspot
    have hcj := hcell j hjz
    rw [Addr.add_lit] at hcj
    have hb := range_u8 hwz j
    rw [List.getD_eq_getElem?_getD, hn'] at hcj
    rw [hn'] at hb
    simp only [Option.getD_some] at hcj hb
    refine ⟨ab, ao, rfl, World.block_lt_of_cell? W _ hcj, ?_⟩
    rw [hcj]
    simp only [Function.comp, bv, UInt8.toNat_ofNat']
    congr 2
    omega
end
end Go.Proofs.YtdhgiflmimonlaaDoor
