/- What is taken of short bytes, many at once: in plain Lean. -/
import Derived.Test.YtefpagijgiggmabNumTk
namespace Go.Proofs.Ytefpagijgiggmab

def tksGo : Nat → List Int → List UInt8 → List Int × List UInt8 × Int
  | 0, acc, r => (acc, r, 0)
  | k + 1, acc, r => if (tkN r).2.2 ≠ 0 then ([], [], (tkN r).2.2) else tksGo k (acc ++ [(tkN r).1]) (tkN r).2.1
def tksN (b : List UInt8) (many : Nat) : List Int × List UInt8 × Int := tksGo many [] b
theorem tksGo_bad (k : Nat) (acc : List Int) (r : List UInt8) (h : (tkN r).2.2 ≠ 0) : tksGo (k + 1) acc r = ([], [], (tkN r).2.2) := if_pos h
theorem tksGo_more (k : Nat) (acc : List Int) (r : List UInt8) (h : (tkN r).2.2 = 0) : tksGo (k + 1) acc r = tksGo k (acc ++ [(tkN r).1]) (tkN r).2.1 := if_neg (by simp [h])
theorem tkN_err (l : List UInt8) : (tkN l).2.2 = 0 ∨ (tkN l).2.2 = 10 ∨ (tkN l).2.2 = 11 := by
  have h : ∀ (k n : Nat) (l : List UInt8), (tkGo k n l).2.2 = 0 ∨ (tkGo k n l).2.2 = 10 ∨ (tkGo k n l).2.2 = 11 := by
    intro k
    induction k with
    | zero => intro n l; simp [tkGo]
    | succ k ih =>
      intro n l
      cases l with
      | nil => simp [tkGo]
      | cons c m =>
        rw [tkGo]
        split
        · exact ih _ _
        · split <;> simp
  unfold tkN; split
  · simp
  · exact h _ _ _
end Go.Proofs.Ytefpagijgiggmab
