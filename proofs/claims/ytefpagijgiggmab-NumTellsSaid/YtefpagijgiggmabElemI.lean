/- Rows of ints. -/
import Derived.Test.YtefpagijgiggmabRows
import Derived.Test.YtefpagijgiggmabFlow
namespace Go.Proofs.Ytefpagijgiggmab
open Go Go.RowKit

theorem elemI : Elem Try.prog 29 3 (.int .i64 0) 1 8 := ⟨Try.underlying29, by kernel_rfl, rfl, by omega⟩
theorem ivs_at {l : List Int} {i : Nat} {n : Int} (hi : l[i]? = some n) : (ivs l)[i]? = some (.int .i64 n) := by
  unfold ivs; rw [List.getElem?_map, hi]; rfl
theorem Rd.int {w : World} {A : Option Addr} {l : List Int} (h : Rd w A (ivs l)) {k : Nat} (hk : k < l.length) :
    ∃ b o x, A = some ⟨b, o, none⟩ ∧ b < w.heap.size ∧ w.cell? ⟨b, o + k, none⟩ = some (.int .i64 x) ∧ l[k]? = some x := by
  have hu : (ivs l)[k]? = some (iv l[k]) := by simp [ivs, hk]
  obtain ⟨b, o, e, hb, hc⟩ := h k _ hu
  exact ⟨b, o, l[k], e, hb, hc, by simp [hk]⟩
theorem Rd.to {w w' : World} {A : Option Addr} {xs : List Value} (h : Rd w A xs) (e : w' = w) : Rd w' A xs := e ▸ h
end Go.Proofs.Ytefpagijgiggmab
