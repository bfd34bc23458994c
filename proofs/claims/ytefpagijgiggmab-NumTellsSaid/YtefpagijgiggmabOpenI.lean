/- Arguments opened: a row of ints. -/
import Derived.Test.YtefpagijgiggmabRows
import Derived.Test.YtefpagijgiggmabOpen
namespace Go.Proofs.Ytefpagijgiggmab
open Go Go.ChangeShapes Go.WideShapes Go.ChangeAt Go.RowKit

/-- Numbers that an int can be. -/
def I64 (n : Int) : Prop := -9223372036854775808 ≤ n ∧ n ≤ 9223372036854775807
section
variable {H : Type} {enc : TypeId × Value → H} {W : World} {base0 : Nat} {sp : Nat → Bool} {held : Bool} {base : Nat}
theorem open_ints_rd {v : Value} {d : DataW H} {p : List MemPlace} (hval : Value.okWide Try.prog W .any base 29 v) (h1 : DataW.Trod enc Try.prog W base0 (fun _ => true) held 29 v d p) :
    ∃ A c, ∃ l : List Int, v = .slice A l.length c ∧ l.length ≤ c ∧ c ≤ maxLen ∧ Rd W A (ivs l) ∧ ∀ n ∈ l, I64 n := by
  obtain ⟨a1, len, cap, rfl⟩ := okWide_slice Try.underlying29 hval
  obtain ⟨fuel, hf⟩ := h1
  rcases open_ints Try.underlying29 Try.underlying3 (by kernel_rfl) hf with ⟨hcs, hx⟩ | ⟨a, len', cap', zs, hcs, _, hl, hm, hz, hx, hcell, hwz⟩
  · simp [Value.cells] at hcs
    obtain ⟨rfl, rfl, rfl⟩ := hcs
    exact ⟨none, 0, [], rfl, Nat.le_refl _, Nat.zero_le _, Rd.nil _ _, by simp⟩
  · simp [Value.cells] at hcs
    obtain ⟨rfl, rfl, rfl⟩ := hcs
    simp only [if_true] at hz
    have hlen : (zs.take len).length = len := by simp; omega
    refine ⟨some a, cap, zs.take len, by rw [hlen], by omega, hm, fun j u hj => ?_, fun n hn => bounds_i64 (hwz n (List.mem_of_mem_take hn))⟩
    simp only [ivs, List.getElem?_map, Option.map_eq_some_iff] at hj
    obtain ⟨n, hn, rfl⟩ := hj
    have hjl : j < (zs.take len).length := (List.getElem?_eq_some_iff.1 hn).1
    have hjz : j < zs.length := by simp at hjl; omega
    have hn' : zs[j]? = some n := by
      rw [List.getElem?_take] at hn
      split at hn
      · exact hn
      · cases hn
    obtain ⟨ab, ao, spot⟩ := a
    have hspot : spot = none := by simpa [Addr.add] using World.cell?_spot (hcell 0 (by omega))
    subst hspot
    have hcj := hcell j hjz
    rw [Addr.add_lit, List.getD_eq_getElem?_getD, hn'] at hcj
    exact ⟨ab, ao, rfl, World.block_lt_of_cell? W _ hcj, hcj⟩
end
end Go.Proofs.Ytefpagijgiggmab
