/- Entries and states, as plain numbers. -/
import Derived.Test.YtoehcmddfpompaaBase
import Derived.Test.YtoehcmddfpompaaOpenI
namespace Go.Proofs.Ytoehcmddfpompaa
open Go Go.RowKit

structure En where
  term : Int
  kind : Int
  value : Int
deriving DecidableEq
structure St where
  index : Int
  term : Int
  sum : Int
  level : Int
  final : Bool
deriving DecidableEq
def En.v (e : En) : Value := .agg #[.int .i64 e.term, .int .i64 e.kind, .int .i64 e.value]
def St.v (s : St) : Value := .agg #[.int .i64 s.index, .int .i64 s.term, .int .i64 s.sum, .int .i64 s.level, .bool s.final]
def maxN : Int := 1073741824
def En.ok (e : En) : Prop := I64 e.term ∧ I64 e.kind ∧ I64 e.value
def St.ok (s : St) : Prop := I64 s.index ∧ I64 s.term ∧ I64 s.sum ∧ I64 s.level

def numB (n : Int) : Bool := decide (0 ≤ n ∧ n ≤ 1073741824)
def rightB (e : En) : Bool := decide (0 ≤ e.kind ∧ e.kind ≤ 4 ∧ 0 < e.term ∧ e.term ≤ 1073741824 ∧ 0 ≤ e.value ∧ e.value ≤ 1073741824 ∧ (e.value = 0 ∨ e.kind = 1))
def firstS : St := ⟨0, 0, 0, 1, false⟩
def FineP (s : St) : Prop := s = firstS ∨ (0 < s.index ∧ s.index ≤ 1073741824 ∧ 0 < s.term ∧ s.term ≤ 1073741824 ∧ 0 ≤ s.sum ∧ s.sum ≤ 1073741824 ∧ (s.level = 1 ∨ s.level = 2) ∧ (s.final = true → s.level = 2))
def fineB (s : St) : Bool :=
  decide (s = firstS) || decide (0 < s.index ∧ s.index ≤ 1073741824 ∧ 0 < s.term ∧ s.term ≤ 1073741824 ∧ 0 ≤ s.sum ∧ s.sum ≤ 1073741824 ∧ (s.level = 1 ∨ s.level = 2) ∧ (s.final = true → s.level = 2))
theorem fineB_iff (s : St) : fineB s = true ↔ FineP s := by unfold fineB FineP; simp only [Bool.or_eq_true, decide_eq_true_eq]
def deedS (k v : Int) (s : St) : St :=
  if k = 1 then { s with sum := (31 * s.sum + v + 1) % 1073741824 }
  else if k = 2 then { s with level := 2 }
  else if k = 3 then (if s.final then s else { s with level := 1 })
  else if k = 4 then { s with final := decide (s.level = 2) }
  else s
def nextS (s : St) (e : En) : St :=
  if rightB e = true ∧ fineB s = true ∧ s.index < 1073741824 then deedS e.kind e.value { s with index := s.index + 1, term := e.term } else s
def allS (s : St) (l : List En) : St := l.foldl nextS s

theorem deedS_index (k v : Int) (s : St) : (deedS k v s).index = s.index := by unfold deedS; repeat' split <;> try rfl
theorem deedS_term (k v : Int) (s : St) : (deedS k v s).term = s.term := by unfold deedS; repeat' split <;> try rfl
theorem nextS_fine (s : St) (e : En) (h : FineP s) : FineP (nextS s e) := by
  unfold nextS
  split
  · rename_i hh
    obtain ⟨h1, _, h3⟩ := hh
    unfold rightB at h1
    simp only [decide_eq_true_eq] at h1
    right
    rw [deedS_index, deedS_term]
    have hs : 0 ≤ s.index ∧ 0 ≤ s.sum ∧ s.sum ≤ 1073741824 ∧ (s.level = 1 ∨ s.level = 2) ∧ (s.final = true → s.level = 2) := by
      rcases h with rfl | h
      · simp [firstS]
      · exact ⟨by omega, by omega, by omega, h.2.2.2.2.2.2.1, h.2.2.2.2.2.2.2⟩
    obtain ⟨i0, i1, i2, i3, i4⟩ := hs
    refine ⟨by show 0 < s.index + 1; omega, by show s.index + 1 ≤ _; omega, by show 0 < e.term; omega, by show e.term ≤ _; omega, ?_⟩
    unfold deedS
    repeat' split
    all_goals first | (refine ⟨?_, ?_, ?_, ?_⟩ <;> simp_all <;> omega) | skip
  · exact h
theorem allS_fine (s : St) (l : List En) (h : FineP s) : FineP (allS s l) := by
  induction l generalizing s with
  | nil => exact h
  | cons e l ih => exact ih _ (nextS_fine s e h)
theorem allS_snoc (s : St) (l : List En) (e : En) : allS s (l ++ [e]) = nextS (allS s l) e := by simp [allS]
theorem deedS_ok (k v : Int) (s : St) (h : s.ok) : (deedS k v s).ok := by
  unfold deedS St.ok I64 at *
  repeat' split
  all_goals (refine ⟨?_, ?_, ?_, ?_⟩ <;> simp_all <;> omega)
theorem nextS_ok (s : St) (e : En) (h : s.ok) (he : e.ok) : (nextS s e).ok := by
  unfold nextS
  split
  · rename_i hh
    refine deedS_ok _ _ _ ⟨?_, he.1, h.2.2.1, h.2.2.2⟩
    have := h.1
    unfold I64 at *
    constructor <;> show _ ≤ _ <;> simp <;> omega
  · exact h
end Go.Proofs.Ytoehcmddfpompaa
