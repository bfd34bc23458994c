/- Entries in two parts, and a noop between: in plain Lean. -/
import Derived.Test.YtefpagijgiggmaaDoorEntFinePl
namespace Go.Proofs.YtefpagijgiggmaaDoor

theorem allS_app (s : St) (l m : List En) : allS s (l ++ m) = allS (allS s l) m := by simp [allS]
theorem allS_index (s : St) (l : List En) : (allS s l).index ≤ s.index + l.length ∧ s.index ≤ (allS s l).index := by
  induction l generalizing s with
  | nil => simp [allS]
  | cons e l ih =>
    have h1 := next_index s e
    have h2 := ih (nextS s e)
    have e1 : allS s (e :: l) = allS (nextS s e) l := rfl
    rw [e1]
    simp only [List.length_cons]
    push_cast
    omega
/-- Behind a noop. -/
def Behind (s t : St) : Prop := FineP s ∧ FineP t ∧ t.index = s.index + 1 ∧ t.sum = s.sum ∧ t.level = s.level ∧ t.final = s.final
theorem Behind.next {s t : St} (h : Behind s t) (hi : t.index < 1073741824) (e : En) : Behind (nextS s e) (nextS t e) := by
  obtain ⟨f1, f2, h1, h2, h3, h4⟩ := h
  refine ⟨nextS_fine _ _ f1, nextS_fine _ _ f2, ?_⟩
  cases hr : rightB e with
  | false => rw [next_wrong s e hr, next_wrong t e hr]; exact ⟨h1, h2, h3, h4⟩
  | true =>
    rw [next_right s e f1 (by omega) hr, next_right t e f2 hi hr]
    obtain ⟨s1, s2, s3, s4, s5⟩ := s
    obtain ⟨t1, t2, t3, t4, t5⟩ := t
    simp only at h1 h2 h3 h4
    subst h1 h2 h3 h4
    unfold deedS
    repeat' split
    all_goals simp_all
theorem Behind.all {s t : St} (h : Behind s t) (m : List En) (hi : t.index + m.length ≤ 1073741824) : Behind (allS s m) (allS t m) := by
  induction m generalizing s t with
  | nil => exact h
  | cons e m ih =>
    simp only [List.length_cons] at hi
    have h1 := next_index t e
    exact ih (h.next (by omega) e) (by push_cast at hi; omega)
theorem Behind.noop {s : St} (f : FineP s) (hi : s.index < 1073741824) (t : Int) (h1 : 1 ≤ t) (h2 : t ≤ 1073741824) : Behind s (nextS s ⟨t, 0, 0⟩) := by
  have hr : rightB ⟨t, 0, 0⟩ = true := by simp [rightB]; omega
  refine ⟨f, nextS_fine _ _ f, ?_⟩
  rw [next_right s _ f hi hr]
  simp [deedS]
theorem parts_tail (s : St) (l m : List En) (t : Int) (f : FineP s) (hi : s.index ≤ 1073741624) (hl : l.length ≤ 50) (hm : m.length ≤ 50) (h1 : 1 ≤ t) (h2 : t ≤ 1073741824) :
    (allS (nextS (allS s l) ⟨t, 0, 0⟩) m).sum = (allS (allS s l) m).sum ∧ (allS (nextS (allS s l) ⟨t, 0, 0⟩) m).level = (allS (allS s l) m).level ∧ (allS (nextS (allS s l) ⟨t, 0, 0⟩) m).final = (allS (allS s l) m).final ∧ (allS (nextS (allS s l) ⟨t, 0, 0⟩) m).index = (allS (allS s l) m).index + 1 := by
  have hf := allS_fine s l f
  have hx := allS_index s l
  have h := (Behind.noop hf (by omega) t h1 h2).all m (by have := next_index (allS s l) ⟨t, 0, 0⟩; omega)
  exact ⟨h.2.2.2.1, h.2.2.2.2.1, h.2.2.2.2.2, h.2.2.1⟩
end Go.Proofs.YtefpagijgiggmaaDoor
