/- What comes behind an entry, as the law of layer 6 asks for it. -/
import Derived.Test.YtoehcmddfpompaaEntPl2
namespace Go.Proofs.Ytoehcmddfpompaa
open Go Go.RowKit
theorem next_right (s : St) (e : En) (hf : FineP s) (hi : s.index < 1073741824) (hr : rightB e = true) : nextS s e = deedS e.kind e.value { s with index := s.index + 1, term := e.term } :=
  if_pos ⟨hr, (fineB_iff s).2 hf, hi⟩
theorem next_wrong (s : St) (e : En) (hr : rightB e = false) : nextS s e = s := if_neg (by simp [hr])
theorem next_final (s : St) (e : En) (hf : FineP s) (hi : s.index < 1073741824) (h : s.final = true) : (nextS s e).final = true ∧ (nextS s e).level = 2 := by
  have h2 : s.level = 2 := by
    rcases hf with rfl | hf
    · cases h
    · exact hf.2.2.2.2.2.2.2 h
  cases hr : rightB e with
  | false => rw [next_wrong s e hr]; exact ⟨h, h2⟩
  | true =>
    rw [next_right s e hf hi hr]
    unfold deedS
    repeat' split
    all_goals simp_all
theorem next_index (s : St) (e : En) : (nextS s e).index ≤ s.index + 1 ∧ s.index ≤ (nextS s e).index := by
  unfold nextS
  split
  · rw [deedS_index]; exact ⟨Int.le_refl _, by show s.index ≤ s.index + 1; omega⟩
  · omega
/-- What is kept, by the kind. -/
theorem next_parts (s : St) (e : En) (hf : FineP s) (hi : s.index < 1073741824) (hr : rightB e = true) :
    (nextS s e).index = s.index + 1 ∧ (nextS s e).term = e.term ∧ (e.kind ≠ 1 → (nextS s e).sum = s.sum) ∧ (e.kind = 0 ∨ e.kind = 1 → (nextS s e).level = s.level ∧ (nextS s e).final = s.final) := by
  rw [next_right s e hf hi hr, deedS_index, deedS_term]
  refine ⟨rfl, rfl, fun h => ?_, fun h => ?_⟩
  · unfold deedS
    rw [if_neg h]
    repeat' split
    all_goals rfl
  · unfold deedS
    rcases h with h | h <;> rw [h] <;> simp
end Go.Proofs.Ytoehcmddfpompaa
