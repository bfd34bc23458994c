/- '==' of two states, of two entries. -/
import Derived.Test.YtoehcmddfpompaaRows
import Derived.Test.YtoehcmddfpompaaEntPl
namespace Go.Proofs.Ytoehcmddfpompaa
open Go Go.RowKit

theorem run_eq_state (w : World) (a b : St) : (Op.equalIn 10000 23 a.v b.v).run Try.prog w = .ok (decide (a = b)) w := by
  obtain ⟨a1, a2, a3, a4, a5⟩ := a
  obtain ⟨b1, b2, b3, b4, b5⟩ := b
  dsimp only [St.v, En.v]
  by_cases h1 : a1 = b1 <;> by_cases h2 : a2 = b2 <;> by_cases h3 : a3 = b3 <;> by_cases h4 : a4 = b4 <;> by_cases h5 : a5 = b5 <;>
  go_simp
theorem run_eq_entry (w : World) (a b : En) : (Op.equalIn 10000 30 a.v b.v).run Try.prog w = .ok (decide (a = b)) w := by
  obtain ⟨a1, a2, a3⟩ := a
  obtain ⟨b1, b2, b3⟩ := b
  dsimp only [St.v, En.v]
  by_cases h1 : a1 = b1 <;> by_cases h2 : a2 = b2 <;> by_cases h3 : a3 = b3 <;>
  go_simp
end Go.Proofs.Ytoehcmddfpompaa
