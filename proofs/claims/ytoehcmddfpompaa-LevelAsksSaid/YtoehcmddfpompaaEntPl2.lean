/- Sums of data, as plain numbers. -/
import Derived.Test.YtoehcmddfpompaaEntPl
namespace Go.Proofs.Ytoehcmddfpompaa
open Go Go.RowKit

theorem FineP.bounds {s : St} (h : FineP s) : 0 ≤ s.index ∧ s.index ≤ 1073741824 ∧ 0 ≤ s.sum ∧ s.sum ≤ 1073741824 := by
  rcases h with rfl | h
  · simp [firstS]
  · omega
theorem next_data (s : St) (hf : FineP s) (hi : s.index < 1073741824) (v : Int) (h0 : 0 ≤ v) (h1 : v ≤ 1073741824) : nextS s ⟨1, 1, v⟩ = ⟨s.index + 1, 1, (31 * s.sum + v + 1) % 1073741824, s.level, s.final⟩ := by
  unfold nextS
  rw [if_pos ⟨by simp [rightB, h0, h1], (fineB_iff s).2 hf, hi⟩]
  rfl
def SumInv (l : List Int) (q : Nat) (value : Int) (s : St) (k : Nat) (a b : St) : Prop :=
  FineP a ∧ FineP b ∧ a.index = s.index + k ∧ b.index = s.index + k ∧ (k ≤ q → a = b) ∧
    (q < k → a.sum < 1073741824 ∧ b.sum < 1073741824 ∧ ∃ x, l[q]? = some x ∧ 0 ≤ x ∧ x ≤ 999 ∧
      ((k = q + 1 ∧ (a.sum - b.sum - (x - value)) % 1073741824 = 0) ∨ (k = q + 2 ∧ (a.sum - b.sum - 31 * (x - value)) % 1073741824 = 0) ∨ (k = q + 3 ∧ (a.sum - b.sum - 961 * (x - value)) % 1073741824 = 0)))
theorem SumInv.start (l : List Int) (q : Nat) (value : Int) (s : St) (h : FineP s) : SumInv l q value s 0 s s := ⟨h, h, by simp, by simp, fun _ => rfl, fun h => by omega⟩
theorem SumInv.step {l : List Int} {q : Nat} {value : Int} {s : St} {k : Nat} {a b : St} (h : SumInv l q value s k a b) (hs : s.index ≤ 1073741624) (hk : k < 3) (v : Int) (hv : l[k]? = some v) (h0 : 0 ≤ v) (h1 : v ≤ 999) (g0 : 0 ≤ value) (g1 : value ≤ 999) :
    SumInv l q value s (k + 1) (nextS a ⟨1, 1, v⟩) (nextS b ⟨1, 1, if k = q then value else v⟩) := by
  obtain ⟨fa, fb, ia, ib, he, hd⟩ := h
  refine ⟨nextS_fine _ _ fa, nextS_fine _ _ fb, ?_⟩
  have va : 0 ≤ (if k = q then value else v) ∧ (if k = q then value else v) ≤ 999 := by split <;> omega
  rw [next_data a fa (by omega) v h0 (by omega), next_data b fb (by omega) _ va.1 (by omega)]
  refine ⟨by show a.index + 1 = _; omega, by show b.index + 1 = _; omega, fun hkq => ?_, fun hkq => ?_⟩
  · rw [if_neg (by omega), he (by omega)]
  · refine ⟨by show _ % _ < _; omega, by show _ % _ < _; omega, ?_⟩
    by_cases e : k = q
    · subst e
      refine ⟨v, hv, h0, h1, .inl ⟨rfl, ?_⟩⟩
      rw [if_pos rfl, he (by omega)]
      show ((31 * b.sum + v + 1) % 1073741824 - (31 * b.sum + value + 1) % 1073741824 - (v - value)) % 1073741824 = 0
      omega
    · obtain ⟨_, _, x, hx, x0, x1, hh⟩ := hd (by omega)
      refine ⟨x, hx, x0, x1, ?_⟩
      rw [if_neg e]
      have goal : ∀ c : Int, (a.sum - b.sum - c) % 1073741824 = 0 → ((31 * a.sum + v + 1) % 1073741824 - (31 * b.sum + v + 1) % 1073741824 - 31 * c) % 1073741824 = 0 := fun c hc => by omega
      rcases hh with ⟨rfl, hh⟩ | ⟨rfl, hh⟩ | ⟨rfl, hh⟩
      · exact .inr (.inl ⟨rfl, goal _ hh⟩)
      · refine .inr (.inr ⟨rfl, ?_⟩)
        have := goal _ hh
        show ((31 * a.sum + v + 1) % 1073741824 - (31 * b.sum + v + 1) % 1073741824 - 961 * (x - value)) % 1073741824 = 0
        omega
      · omega
theorem SumInv.last {l : List Int} {q : Nat} {value : Int} {s : St} {k : Nat} {a b : St} (h : SumInv l q value s k a b) (hq : q < k) (g0 : 0 ≤ value) (g1 : value ≤ 999) {x : Int} (hx : l[q]? = some x) :
    ((a.sum == b.sum) == (x == value)) = true := by
  obtain ⟨fa, fb, _, _, _, hd⟩ := h
  obtain ⟨la, lb, x', hx', x0, x1, hh⟩ := hd hq
  rw [hx] at hx'
  obtain rfl := Option.some.inj hx'
  have ba := fa.bounds
  have bb := fb.bounds
  rw [beq_iff_eq, Bool.eq_iff_iff, beq_iff_eq, beq_iff_eq]
  omega
end Go.Proofs.Ytoehcmddfpompaa
