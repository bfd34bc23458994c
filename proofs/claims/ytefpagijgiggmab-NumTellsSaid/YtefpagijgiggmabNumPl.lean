/- Numbers as bytes: in plain Lean, no program in sight. -/
import Derived.Test.YtefpagijgiggmabBase
namespace Go.Proofs.Ytefpagijgiggmab

/-- What is no number. -/
def badN (n : Int) : Bool := decide (n < 0) || decide (1073741824 < n)
def isN (l : List Int) : Bool := !(l.any badN)
theorem badN_false {n : Int} : badN n = false ↔ 0 ≤ n ∧ n ≤ 1073741824 := by simp [badN]
theorem badN_true {n : Int} : badN n = true ↔ n < 0 ∨ 1073741824 < n := by simp [badN]
theorem any_take_succ (l : List Int) (k : Nat) (x : Int) (h : l[k]? = some x) (h0 : (l.take k).any badN = false) (hx : badN x = false) : (l.take (k + 1)).any badN = false := by
  rw [List.take_add_one, h]; simp only [Option.toList_some, List.any_append, h0, List.any_cons, hx, List.any_nil]; rfl
theorem any_of_at (l : List Int) (k : Nat) (x : Int) (h : l[k]? = some x) (hx : badN x = true) : l.any badN = true :=
  List.any_eq_true.2 ⟨x, List.mem_of_getElem? h, hx⟩

/-- A number's digits to base B, so many below the highest one, the highest first. -/
def digs (B : Nat) : Nat → Nat → List Nat
  | 0, n => [n % B]
  | k + 1, n => n / B ^ (k + 1) % B :: digs B k n
/-- How many digits to base 128 there are below the highest that is none. -/
def topK (n : Nat) : Nat := if n < 128 then 0 else if n < 16384 then 1 else if n < 2097152 then 2 else if n < 268435456 then 3 else 4
/-- Digits, all but the last one marked. -/
def marked : List Nat → List Nat
  | [] => []
  | [d] => [d]
  | d :: e :: l => (d + 128) :: marked (e :: l)
def toB (l : List Nat) : List UInt8 := l.map UInt8.ofNat
def short1 (n : Nat) : List UInt8 := toB (marked (digs 128 (topK n) n))
def long1 (n : Nat) : List UInt8 := toB (digs 256 4 n)
def shortL (l : List Int) : List UInt8 := l.flatMap fun n => short1 n.toNat
def longL (l : List Int) : List UInt8 := l.flatMap fun n => long1 n.toNat
/-- What is told of numbers: bytes, and an error. -/
def errN (l : List Int) : Int := if isN l = true then 0 else 2
def longR (l : List Int) : List UInt8 := if isN l = true then longL l else []
def shortR (l : List Int) : List UInt8 := if isN l = true then shortL l else []
theorem errN_le (l : List Int) : errN l = 0 ∨ errN l = 2 := by unfold errN; split <;> simp
/-- What is taken of long bytes: a number, what is behind, an error (0, 10 too short, 11 no form). -/
def tlN (l : List UInt8) : Int × List UInt8 × Int :=
  match l with
  | a :: b :: c :: d :: e :: m =>
    let n : Nat := (((a.toNat * 256 + b.toNat) * 256 + c.toNat) * 256 + d.toNat) * 256 + e.toNat
    if n ≤ 1073741824 then ((n : Int), m, 0) else (0, [], 11)
  | _ => (0, [], 10)
theorem tlN_short (l : List UInt8) (h : l.length < 5) : tlN l = (0, [], 10) := by
  match l, h with
  | [], _ => rfl
  | [_], _ => rfl
  | [_, _], _ => rfl
  | [_, _, _], _ => rfl
  | [_, _, _, _], _ => rfl
  | _ :: _ :: _ :: _ :: _ :: _, h => simp only [List.length_cons] at h; omega
theorem five_of (l : List UInt8) (h : 5 ≤ l.length) : ∃ a b c d e m, l = a :: b :: c :: d :: e :: m := by
  match l, h with
  | a :: b :: c :: d :: e :: m, _ => exact ⟨a, b, c, d, e, m, rfl⟩
  | [], h => simp at h
  | [_], h => simp at h
  | [_, _], h => simp at h
  | [_, _, _], h => simp at h
  | [_, _, _, _], h => simp at h
/-- Bytes' value, the highest one first. -/
def valN (l : List UInt8) : Nat := l.foldl (fun a c => a * 256 + c.toNat) 0
theorem valN_snoc (l : List UInt8) (c : UInt8) : valN (l ++ [c]) = valN l * 256 + c.toNat := by simp [valN]
theorem valN_lt (l : List UInt8) : ∀ n, l.length ≤ n → valN l < 256 ^ n := by
  have h : ∀ (m : List UInt8) (a n : Nat), a < 256 ^ n → m.foldl (fun a c => a * 256 + c.toNat) a < 256 ^ (n + m.length) := by
    intro m
    induction m with
    | nil => intro a n h; simpa using h
    | cons c m ih =>
      intro a n h
      have := ih (a * 256 + c.toNat) (n + 1) (by have := c.toNat_lt; rw [Nat.pow_succ]; omega)
      simpa [Nat.add_assoc, Nat.add_comm, Nat.add_left_comm] using this
  intro n hn
  have := h l 0 0 (by simp)
  rw [Nat.zero_add] at this
  exact Nat.lt_of_lt_of_le this (Nat.pow_le_pow_right (by omega) hn)
theorem tlN_long (l : List UInt8) (h : 5 ≤ l.length) : tlN l = if valN (l.take 5) ≤ 1073741824 then ((valN (l.take 5) : Int), l.drop 5, 0) else (0, [], 11) := by
  obtain ⟨a, b, c, d, e, m, rfl⟩ := five_of l h
  simp [tlN, valN]
theorem digs_length (B k n : Nat) : (digs B k n).length = k + 1 := by
  induction k with
  | zero => rfl
  | succ k ih => simp [digs, ih]
theorem digs_at (B k n i : Nat) (h : i ≤ k) : (digs B k n)[i]? = some (n / B ^ (k - i) % B) := by
  induction k generalizing i with
  | zero => obtain rfl : i = 0 := by omega
            simp [digs]
  | succ k ih =>
    cases i with
    | zero => simp [digs]
    | succ i => simpa [digs] using ih i (by omega)
theorem digs_lt (B k n : Nat) (hB : 0 < B) : ∀ d ∈ digs B k n, d < B := by
  induction k with
  | zero => simp only [digs, List.mem_singleton]; rintro d rfl; exact Nat.mod_lt _ hB
  | succ k ih =>
    simp only [digs, List.mem_cons]
    rintro d (rfl | hd)
    · exact Nat.mod_lt _ hB
    · exact ih d hd
theorem topK_le (n : Nat) : topK n ≤ 4 := by unfold topK; split <;> (try split) <;> (try split) <;> (try split) <;> omega
theorem topK_lt (n : Nat) (h : n ≤ 1073741824) : n < 128 ^ (topK n + 1) := by
  unfold topK
  split
  · simpa
  · split
    · simpa
    · split
      · simpa
      · split
        · simpa
        · simp; omega
theorem topK_ge (n : Nat) (h : 0 < topK n) : 128 ^ topK n ≤ n := by
  unfold topK at *
  split
  · simp_all
  · split
    · simp; omega
    · split
      · simp; omega
      · split
        · simp; omega
        · simp; omega
end Go.Proofs.Ytefpagijgiggmab
