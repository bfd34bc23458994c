/- What is put in short bytes is taken; long bytes stand in order: in plain Lean. -/
import Derived.Test.YtefpagijgiggmabNumTs
namespace Go.Proofs.Ytefpagijgiggmab
open Go

theorem toB_cons (d : Nat) (l : List Nat) : toB (d :: l) = UInt8.ofNat d :: toB l := rfl
theorem ofN (d : Nat) (h : d < 256) : (UInt8.ofNat d).toNat = d := by simp [UInt8.toNat_ofNat', Nat.mod_eq_of_lt h]
theorem mod_join (n k : Nat) : n % 128 ^ (k + 1 + 1) = n / 128 ^ (k + 1) % 128 * 128 ^ (k + 1) + n % 128 ^ (k + 1) := by
  rw [Nat.pow_succ 128 (k + 1), Nat.mod_mul, Nat.add_comm, Nat.mul_comm]
theorem tkGo_short (r : List UInt8) (n : Nat) : ∀ (k j acc : Nat), k < j → acc * 128 ^ (k + 1) + n % 128 ^ (k + 1) ≤ 1073741824 →
    tkGo j acc (toB (marked (digs 128 k n)) ++ r) = (((acc * 128 ^ (k + 1) + n % 128 ^ (k + 1) : Nat) : Int), r, 0) := by
  intro k
  induction k with
  | zero =>
    intro j acc hj hv
    obtain ⟨j, rfl⟩ : ∃ i, j = i + 1 := ⟨j - 1, by omega⟩
    have hd : n % 128 < 128 := Nat.mod_lt _ (by omega)
    simp only [digs, marked, toB_cons, List.cons_append]
    simp only [Nat.zero_add, Nat.pow_one] at hv ⊢
    have e := ofN (n % 128) (by omega)
    rw [tkGo_end j acc _ _ (by rw [e]; exact hd) (by rw [e, Nat.mod_mod]; exact hv), e, Nat.mod_mod]
    rfl
  | succ k ih =>
    intro j acc hj hv
    obtain ⟨j, rfl⟩ : ∃ i, j = i + 1 := ⟨j - 1, by omega⟩
    have hd : n / 128 ^ (k + 1) % 128 < 128 := Nat.mod_lt _ (by omega)
    have hx : ∀ d : Nat, toB (marked (d :: digs 128 k n)) = UInt8.ofNat (d + 128) :: toB (marked (digs 128 k n)) := fun d => by
      cases hh : digs 128 k n with
      | nil => have := digs_length 128 k n; rw [hh] at this; simp at this
      | cons e l => rfl
    have e := ofN (n / 128 ^ (k + 1) % 128 + 128) (by omega)
    have hj2 := mod_join n k
    show tkGo (j + 1) acc (toB (marked (n / 128 ^ (k + 1) % 128 :: digs 128 k n)) ++ r) = _
    rw [hx, List.cons_append, tkGo_more _ _ _ _ (by rw [e]; omega), e]
    have e2 : acc * 128 ^ (k + 1 + 1) = acc * 128 * 128 ^ (k + 1) := by rw [Nat.pow_succ 128 (k + 1), Nat.mul_assoc, Nat.mul_comm (128 ^ (k + 1)) 128]
    have e3 : (n / 128 ^ (k + 1) % 128 + 128) % 128 = n / 128 ^ (k + 1) % 128 := by omega
    rw [e3]
    have e4 : (acc * 128 + n / 128 ^ (k + 1) % 128) * 128 ^ (k + 1) + n % 128 ^ (k + 1) = acc * 128 ^ (k + 1 + 1) + n % 128 ^ (k + 1 + 1) := by
      rw [e2, hj2, Nat.add_mul, Nat.add_assoc]
    rw [ih j _ (by omega) (by rw [e4]; exact hv), e4]
theorem short_head (n : Nat) (h : n ≤ 1073741824) (r : List UInt8) : (short1 n ++ r).head? ≠ some 128 := by
  unfold short1
  have hx : ∀ (k d : Nat), toB (marked (d :: digs 128 k n)) = UInt8.ofNat (d + 128) :: toB (marked (digs 128 k n)) := fun k d => by
    cases hh : digs 128 k n with
    | nil => have := digs_length 128 k n; rw [hh] at this; simp at this
    | cons e l => rfl
  cases hk : topK n with
  | zero =>
    simp only [digs, marked, toB_cons, List.cons_append, List.head?_cons, ne_eq, Option.some.injEq]
    intro e
    have := congrArg UInt8.toNat e
    rw [ofN _ (by omega)] at this
    simp at this
    omega
  | succ k =>
    show (toB (marked (n / 128 ^ (k + 1) % 128 :: digs 128 k n)) ++ r).head? ≠ _
    rw [hx]
    simp only [List.cons_append, List.head?_cons, ne_eq, Option.some.injEq]
    intro e
    have h1 := topK_ge n (by omega)
    have h2 := topK_lt n h
    rw [hk] at h1 h2
    have hp : 0 < 128 ^ (k + 1) := Nat.pow_pos (by omega)
    have h3 : 1 ≤ n / 128 ^ (k + 1) := (Nat.le_div_iff_mul_le hp).2 (by omega)
    have h4 : n / 128 ^ (k + 1) < 128 := (Nat.div_lt_iff_lt_mul hp).2 (by rw [Nat.pow_succ] at h2; omega)
    have := congrArg UInt8.toNat e
    rw [ofN _ (by omega)] at this
    simp at this
    omega
/-- What is put in short bytes is taken, whatever stands behind. -/
theorem tk_short (n : Nat) (h : n ≤ 1073741824) (r : List UInt8) : tkN (short1 n ++ r) = ((n : Int), r, 0) := by
  unfold tkN
  rw [if_neg (short_head n h r)]
  have hm : n % 128 ^ (topK n + 1) = n := Nat.mod_eq_of_lt (topK_lt n h)
  have := tkGo_short r n (topK n) 5 0 (by have := topK_le n; omega) (by rw [hm]; omega)
  rw [hm] at this
  simpa [short1] using this
theorem short_len (n : Nat) : (short1 n).length = topK n + 1 := by
  have h : ∀ l : List Nat, (marked l).length = l.length := by
    intro l
    induction l with
    | nil => rfl
    | cons d l ih => cases l with
      | nil => rfl
      | cons e l => simp only [marked, List.length_cons] at ih ⊢; omega
  simp [short1, toB, h, digs_length]
theorem topK_mono (n m : Nat) (h : n ≤ m) : topK n ≤ topK m := by
  unfold topK
  repeat' split
  all_goals omega
theorem short_le (n m : Nat) (h : n ≤ m) : (short1 n).length ≤ (short1 m).length := by
  rw [short_len, short_len]; have := topK_mono n m h; omega
theorem short_prefix (n m : Nat) (hn : n ≤ 1073741824) (hm : m ≤ 1073741824) : short1 n = (short1 m).take (short1 n).length ↔ n = m := by
  constructor
  · intro h
    have h1 := tk_short m hm []
    rw [List.append_nil, ← List.take_append_drop (short1 n).length (short1 m), ← h, tk_short n hn] at h1
    have := congrArg Prod.fst h1
    exact Int.ofNat.inj this
  · rintro rfl; simp
theorem long_less (n m : Nat) (hn : n ≤ 1073741824) (hm : m ≤ 1073741824) : Op.bytesLess (long1 n) (long1 m) = decide (n < m) := by
  have hlt : ∀ x y : Nat, x < 256 → y < 256 → ((UInt8.ofNat x < UInt8.ofNat y) ↔ x < y) := fun x y hx hy => by rw [UInt8.lt_iff_toNat_lt, ofN x hx, ofN y hy]
  have heq : ∀ x y : Nat, x < 256 → y < 256 → (UInt8.ofNat x = UInt8.ofNat y ↔ x = y) := fun x y hx hy => by rw [← UInt8.toNat_inj, ofN x hx, ofN y hy]
  have b : ∀ x : Nat, x % 256 < 256 := fun x => Nat.mod_lt _ (by omega)
  rw [Bool.eq_iff_iff]
  simp only [long1, digs, toB, List.map_cons, List.map_nil, Op.bytesLess, Bool.or_eq_true, Bool.and_eq_true, decide_eq_true_eq, beq_iff_eq, hlt _ _ (b _) (b _), heq _ _ (b _) (b _), Nat.reducePow, Nat.reduceAdd, Bool.false_eq_true, and_false, or_false]
  have e : ∀ x : Nat, x ≤ 1073741824 → x / 4294967296 = 0 ∧ x / 16777216 = x / 256 / 256 / 256 ∧ x / 65536 = x / 256 / 256 := fun x hx => ⟨by omega, by rw [Nat.div_div_eq_div_mul, Nat.div_div_eq_div_mul], by rw [Nat.div_div_eq_div_mul]⟩
  rw [(e n hn).1, (e n hn).2.1, (e n hn).2.2, (e m hm).1, (e m hm).2.1, (e m hm).2.2]
  have g : ∀ x : Nat, x ≤ 1073741824 → x = 256 * (x / 256) + x % 256 ∧ x / 256 = 256 * (x / 256 / 256) + x / 256 % 256 ∧ x / 256 / 256 = 256 * (x / 256 / 256 / 256) + x / 256 / 256 % 256 ∧ x / 256 / 256 / 256 % 256 = x / 256 / 256 / 256 := fun x hx => ⟨by omega, by omega, by omega, by omega⟩
  obtain ⟨n1, n2, n3, n4⟩ := g n hn
  obtain ⟨m1, m2, m3, m4⟩ := g m hm
  rw [n4, m4]
  have bn := b n
  have bn1 := b (n / 256)
  have bn2 := b (n / 256 / 256)
  have bm := b m
  have bm1 := b (m / 256)
  have bm2 := b (m / 256 / 256)
  generalize n % 256 = a0 at *
  generalize n / 256 % 256 = a1 at *
  generalize n / 256 / 256 % 256 = a2 at *
  generalize n / 256 / 256 / 256 = a3 at *
  generalize n / 256 / 256 = q2 at *
  generalize n / 256 = q1 at *
  generalize m % 256 = b0 at *
  generalize m / 256 % 256 = b1 at *
  generalize m / 256 / 256 % 256 = b2 at *
  generalize m / 256 / 256 / 256 = b3 at *
  generalize m / 256 / 256 = r2 at *
  generalize m / 256 = r1 at *
  clear n4 m4 hlt heq e g b
  omega
end Go.Proofs.Ytefpagijgiggmab
