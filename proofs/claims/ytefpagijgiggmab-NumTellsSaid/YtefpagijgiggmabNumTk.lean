/- What is taken of short bytes: in plain Lean. -/
import Derived.Test.YtefpagijgiggmabNumPl
namespace Go.Proofs.Ytefpagijgiggmab

/-- From digit 5 - k on, n being what the digits ahead come to: a number, what is behind, an error (0, 10 too short, 11 no form). -/
def tkGo : Nat → Nat → List UInt8 → Int × List UInt8 × Int
  | 0, _, _ => (0, [], 11)
  | _ + 1, _, [] => (0, [], 10)
  | k + 1, n, c :: m =>
    if 128 ≤ c.toNat then tkGo k (n * 128 + c.toNat % 128) m
    else if n * 128 + c.toNat % 128 ≤ 1073741824 then (((n * 128 + c.toNat % 128 : Nat) : Int), m, 0) else (0, [], 11)
def tkN (l : List UInt8) : Int × List UInt8 × Int := if l.head? = some 128 then (0, [], 11) else tkGo 5 0 l
theorem tkGo_more (k n : Nat) (c : UInt8) (m : List UInt8) (h : 128 ≤ c.toNat) : tkGo (k + 1) n (c :: m) = tkGo k (n * 128 + c.toNat % 128) m := by
  rw [tkGo, if_pos h]
theorem tkGo_end (k n : Nat) (c : UInt8) (m : List UInt8) (h : c.toNat < 128) (hn : n * 128 + c.toNat % 128 ≤ 1073741824) : tkGo (k + 1) n (c :: m) = (((n * 128 + c.toNat % 128 : Nat) : Int), m, 0) := by
  rw [tkGo, if_neg (by omega), if_pos hn]
theorem tkGo_big (k n : Nat) (c : UInt8) (m : List UInt8) (h : c.toNat < 128) (hn : 1073741824 < n * 128 + c.toNat % 128) : tkGo (k + 1) n (c :: m) = (0, [], 11) := by
  rw [tkGo, if_neg (by omega), if_neg (by omega)]
theorem tkGo_rest : ∀ (k n : Nat) (l : List UInt8), (tkGo k n l).2.1.length ≤ l.length
  | 0, _, _ => by simp [tkGo]
  | _ + 1, _, [] => by simp [tkGo]
  | k + 1, n, c :: m => by
    rw [tkGo]
    split
    · have := tkGo_rest k (n * 128 + c.toNat % 128) m
      simp only [List.length_cons]; omega
    · split <;> simp
theorem tkN_rest (l : List UInt8) : (tkN l).2.1.length ≤ l.length := by
  unfold tkN; split
  · simp
  · exact tkGo_rest 5 0 l
end Go.Proofs.Ytefpagijgiggmab
