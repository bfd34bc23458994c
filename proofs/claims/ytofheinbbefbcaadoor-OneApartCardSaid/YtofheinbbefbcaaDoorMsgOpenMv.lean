/- An entry as an argument, opened. -/
import Derived.Test.YtofheinbbefbcaaDoorMv0
namespace Go.Proofs.YtofheinbbefbcaaDoor
open Go Go.ChangeShapes Go.WideShapes Go.ChangeAt Go.RowKit
set_option maxRecDepth 100000
section
variable {H : Type} {enc : TypeId × Value → H} {W : World} {base0 : Nat} {sp : Nat → Bool} {held : Bool} {base : Nat}
theorem open_entry {v : Value} {d : DataW H} {p : List MemPlace} (hval : Value.okWide Tryd.prog W .any base 40 v) (h1 : DataW.Trod enc Tryd.prog W base0 sp held 40 v d p) : ∃ e : En, e.ok ∧ v = .agg #[.int .i64 e.term, .int .i64 e.kind, .int .i64 e.value] := by
  obtain ⟨cs, rfl, hsz⟩ := okWide_struct Tryd.underlying40 hval
  obtain ⟨fuel, hf⟩ := h1
  obtain ⟨s, hs, he⟩ := trod_entry hf
  refine ⟨s, hs, ?_⟩
  simp only [Value.cells] at he
  obtain ⟨l⟩ := cs
  simp only at he
  subst he
  rfl

end
end Go.Proofs.YtofheinbbefbcaaDoor
