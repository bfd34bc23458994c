/- What is taken is put as the bytes that were there: in plain Lean. -/
import Derived.Test.YtefpagijgiggmabNumOrdPl
import Derived.Test.YtefpagijgiggmabNumWe
namespace Go.Proofs.Ytefpagijgiggmab
open Go

theorem toB_len (l : List Nat) : (toB l).length = l.length := by simp [toB]
theorem ofNat_toNat' (c : UInt8) : UInt8.ofNat c.toNat = c := by simp
theorem marked_two (k d n : Nat) : toB (marked (d :: digs 128 k n)) = UInt8.ofNat (d + 128) :: toB (marked (digs 128 k n)) := by
  cases hh : digs 128 k n with
  | nil => have := digs_length 128 k n; rw [hh] at this; simp at this
  | cons e l => rfl
theorem tkGo_inv : ∀ (k n : Nat) (l : List UInt8) (x : Int) (r : List UInt8), tkGo k n l = (x, r, 0) →
    ∃ X j : Nat, x = X ∧ X ≤ 1073741824 ∧ j < k ∧ X / 128 ^ (j + 1) = n ∧ l = toB (marked (digs 128 j X)) ++ r
  | 0, n, l, x, r, h => by simp [tkGo] at h
  | k + 1, n, [], x, r, h => by simp [tkGo] at h
  | k + 1, n, c :: m, x, r, h => by
    have hc := c.toNat_lt
    by_cases h1 : 128 ≤ c.toNat
    · rw [tkGo_more k n c m h1] at h
      obtain ⟨X, j, rfl, hX, hj, hq, rfl⟩ := tkGo_inv k _ m x r h
      have e1 : X / 128 ^ (j + 1 + 1) = n := by rw [Nat.pow_succ 128 (j + 1), ← Nat.div_div_eq_div_mul, hq]; omega
      refine ⟨X, j + 1, rfl, hX, by omega, e1, ?_⟩
      show _ = toB (marked (X / 128 ^ (j + 1) % 128 :: digs 128 j X)) ++ r
      rw [marked_two, hq, List.cons_append]
      have e2 : (n * 128 + c.toNat % 128) % 128 + 128 = c.toNat := by omega
      rw [e2, ofNat_toNat']
    · by_cases h2 : n * 128 + c.toNat % 128 ≤ 1073741824
      · rw [tkGo_end k n c m (by omega) h2] at h
        injection h with h3 h4
        injection h4 with h4 _
        subst h3 h4
        refine ⟨_, 0, rfl, h2, by omega, by simp; omega, ?_⟩
        have e2 : (n * 128 + c.toNat % 128) % 128 = c.toNat := by omega
        simp only [digs, marked, toB_cons, e2, ofNat_toNat']
        rfl
      · rw [tkGo_big k n c m (by omega) (by omega)] at h
        injection h with _ h4
        injection h4 with _ h5
        cases h5
theorem topK_of (X j : Nat) (hj : j < 5) (h1 : 0 < j → 128 ^ j ≤ X) (h2 : X < 128 ^ (j + 1)) : topK X = j := by
  have : j = 0 ∨ j = 1 ∨ j = 2 ∨ j = 3 ∨ j = 4 := by omega
  unfold topK
  rcases this with rfl | rfl | rfl | rfl | rfl <;> simp at h1 h2 <;> (repeat' split) <;> omega
/-- What is taken of short bytes is what they are put as. -/
theorem tk_inv (l : List UInt8) (x : Int) (r : List UInt8) (h : tkN l = (x, r, 0)) : ∃ X : Nat, x = X ∧ X ≤ 1073741824 ∧ l = short1 X ++ r := by
  unfold tkN at h
  split at h
  · injection h with _ h4; injection h4 with _ h5; cases h5
  · rename_i hh
    obtain ⟨X, j, rfl, hX, hj, hq, rfl⟩ := tkGo_inv 5 0 l x r h
    refine ⟨X, rfl, hX, ?_⟩
    have hp : 0 < 128 ^ (j + 1) := Nat.pow_pos (by omega)
    have hlt : X < 128 ^ (j + 1) := by
      have := (Nat.div_eq_zero_iff (a := X) (b := 128 ^ (j + 1))).1 hq
      omega
    have hk : topK X = j := by
      refine topK_of X j hj (fun h0 => ?_) hlt
      obtain ⟨i, rfl⟩ : ∃ i, j = i + 1 := ⟨j - 1, by omega⟩
      rcases Nat.lt_or_ge X (128 ^ (i + 1)) with hl | hl
      · exfalso
        refine hh ?_
        show (toB (marked (X / 128 ^ (i + 1) % 128 :: digs 128 i X)) ++ r).head? = _
        rw [marked_two, Nat.div_eq_of_lt hl]
        rfl
      · exact hl
    rw [short1, hk]
theorem tkGo_out : ∀ (k n : Nat) (l : List UInt8), (∀ c ∈ l, 128 ≤ c.toNat) → l.length < k → tkGo k n l = (0, [], 10)
  | 0, _, _, _, h => by omega
  | k + 1, n, [], _, _ => rfl
  | k + 1, n, c :: m, h, hl => by
    rw [tkGo_more k n c m (h c (by simp))]
    exact tkGo_out k _ m (fun d hd => h d (by simp [hd])) (by simp at hl; omega)
/-- With one byte fewer there are too few. -/
theorem tk_fewer (n : Nat) (h : n ≤ 1073741824) : tkN ((short1 n).take (topK n)) = (0, [], 10) := by
  have hK := topK_le n
  have hall : ∀ c ∈ (short1 n).take (topK n), 128 ≤ c.toNat := by
    rw [short1, marked_eq]
    intro c hc
    have h1 : (toB ((List.map (fun x => x + 128) (digs 128 (topK n) n)).set (topK n) (n % 128))).take (topK n) = toB ((List.map (fun x => x + 128) (digs 128 (topK n) n)).take (topK n)) := by
      unfold toB
      rw [← List.map_take, List.take_set, List.set_eq_of_length_le (by simp only [List.length_take, List.length_map]; exact Nat.min_le_left _ _)]
    rw [h1] at hc
    unfold toB at hc
    obtain ⟨y, hy, rfl⟩ := List.mem_map.1 hc
    obtain ⟨d, hd, rfl⟩ := List.mem_map.1 (List.mem_of_mem_take hy)
    have := digs_lt 128 (topK n) n (by omega) d hd
    rw [ofN _ (by omega)]
    omega
  unfold tkN
  rw [if_neg]
  · exact tkGo_out 5 0 _ hall (by rw [List.length_take]; omega)
  · intro he
    have h1 := short_head n h []
    rw [List.append_nil] at h1
    cases hs : short1 n with
    | nil => rw [hs] at he; simp at he
    | cons c m =>
      rw [hs] at he h1
      cases hk : topK n with
      | zero => rw [hk] at he; simp at he
      | succ i => rw [hk] at he; simp at he; subst he; simp at h1
theorem tl_inv (l : List UInt8) (x : Int) (r : List UInt8) (h : tlN l = (x, r, 0)) : ∃ X : Nat, x = X ∧ X ≤ 1073741824 ∧ l = long1 X ++ r := by
  by_cases h5 : l.length < 5
  · rw [tlN_short l h5] at h
    injection h with _ h4; injection h4 with _ h5; cases h5
  · obtain ⟨a, b, c, d, e, m, rfl⟩ := five_of l (by omega)
    have ha := a.toNat_lt
    have hb := b.toNat_lt
    have hc := c.toNat_lt
    have hd := d.toNat_lt
    have he := e.toNat_lt
    simp only [tlN] at h
    split at h
    · rename_i hn
      injection h with h3 h4
      injection h4 with h4 _
      subst h4
      refine ⟨_, h3.symm, hn, ?_⟩
      have e0 : ((((a.toNat * 256 + b.toNat) * 256 + c.toNat) * 256 + d.toNat) * 256 + e.toNat) / 4294967296 % 256 = a.toNat := by omega
      have e1 : ((((a.toNat * 256 + b.toNat) * 256 + c.toNat) * 256 + d.toNat) * 256 + e.toNat) / 16777216 % 256 = b.toNat := by omega
      have e2 : ((((a.toNat * 256 + b.toNat) * 256 + c.toNat) * 256 + d.toNat) * 256 + e.toNat) / 65536 % 256 = c.toNat := by omega
      have e3 : ((((a.toNat * 256 + b.toNat) * 256 + c.toNat) * 256 + d.toNat) * 256 + e.toNat) / 256 % 256 = d.toNat := by omega
      have e4 : ((((a.toNat * 256 + b.toNat) * 256 + c.toNat) * 256 + d.toNat) * 256 + e.toNat) % 256 = e.toNat := by omega
      simp only [long1, digs, toB, List.map_cons, List.map_nil, Nat.reducePow, Nat.reduceAdd, e0, e1, e2, e3, e4, ofNat_toNat']
      rfl
    · injection h with _ h4; injection h4 with _ h5; cases h5
theorem tl_long (n : Nat) (h : n ≤ 1073741824) (r : List UInt8) : tlN (long1 n ++ r) = ((n : Int), r, 0) := by
  have hb : ∀ x : Nat, (UInt8.ofNat (x % 256)).toNat = x % 256 := fun x => ofN _ (Nat.mod_lt _ (by omega))
  simp only [long1, digs, toB, List.map_cons, List.map_nil, List.cons_append, List.nil_append, tlN, hb, Nat.reducePow, Nat.reduceAdd]
  have e : (((n / 4294967296 % 256 * 256 + n / 16777216 % 256) * 256 + n / 65536 % 256) * 256 + n / 256 % 256) * 256 + n % 256 = n := by omega
  rw [e, if_pos h]
theorem tlN_err (l : List UInt8) : (tlN l).2.2 = 0 ∨ ((tlN l = (0, [], 10)) ∧ l.length < 5) ∨ ((tlN l = (0, [], 11)) ∧ 5 ≤ l.length) := by
  by_cases h5 : l.length < 5
  · exact .inr (.inl ⟨tlN_short l h5, h5⟩)
  · rw [tlN_long l (by omega)]
    split
    · exact .inl rfl
    · exact .inr (.inr ⟨rfl, by omega⟩)
theorem tkN_bad (l : List UInt8) (h : (tkN l).2.2 ≠ 0) : tkN l = (0, [], 10) ∨ tkN l = (0, [], 11) := by
  have hg : ∀ (k n : Nat) (l : List UInt8), (tkGo k n l).2.2 ≠ 0 → tkGo k n l = (0, [], 10) ∨ tkGo k n l = (0, [], 11) := by
    intro k
    induction k with
    | zero => intro n l _; exact .inr rfl
    | succ k ih =>
      intro n l
      cases l with
      | nil => intro _; exact .inl rfl
      | cons c m =>
        rw [tkGo]
        split
        · exact ih _ _
        · split
          · intro h; exact (h rfl).elim
          · intro _; exact .inr rfl
  unfold tkN at *
  split
  · exact .inr rfl
  · rename_i hh; rw [if_neg hh] at h; exact hg _ _ _ h
end Go.Proofs.Ytefpagijgiggmab
