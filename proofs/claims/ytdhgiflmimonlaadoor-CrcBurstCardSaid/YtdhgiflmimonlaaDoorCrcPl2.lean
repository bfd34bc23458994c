/- Plain law of the sum of bytes: its steps undo, bursts of four bytes are seen, three rows go with exclusive or. -/
import Derived.Test.YtdhgiflmimonlaaDoorCrcPl
namespace Go.Proofs.YtdhgiflmimonlaaDoor

theorem tab_top (i j : Nat) (hi : i < 16) (hj : j < 16) (h : tab i / 268435456 = tab j / 268435456) : i = j :=
  (show ∀ i, i < 16 → ∀ j, j < 16 → tab i / 268435456 = tab j / 268435456 → i = j by decide) i hi j hj h
theorem bit4_eq (x : Nat) : bit4 x = tab (x % 16) ^^^ (x / 16) := by
  conv => lhs; rw [split16 x]
  rw [bit4_xor, bit4_mul, bit4_low _ (Nat.mod_lt _ (by omega)), Nat.xor_comm]
theorem xor_div28 (a b : Nat) : (a ^^^ b) / 268435456 = (a / 268435456) ^^^ (b / 268435456) := by
  have := @Nat.xor_div_two_pow a b 28
  simpa using this
theorem bit4_lt (x : Nat) (h : x < 4294967296) : bit4 x < 4294967296 := by
  rw [bit4_eq]; exact Nat.xor_lt_two_pow (n := 32) (tab_lt _) (by omega)
theorem bit4_inj (x y : Nat) (hx : x < 4294967296) (hy : y < 4294967296) (h : bit4 x = bit4 y) : x = y := by
  rw [bit4_eq, bit4_eq] at h
  have h1 := congrArg (· / 268435456) h
  simp only [xor_div28] at h1
  rw [Nat.div_eq_of_lt (show x / 16 < 268435456 by omega), Nat.div_eq_of_lt (show y / 16 < 268435456 by omega), Nat.xor_zero, Nat.xor_zero] at h1
  have h2 := tab_top _ _ (Nat.mod_lt x (by omega)) (Nat.mod_lt y (by omega)) h1
  rw [h2] at h
  have h3 : x / 16 = y / 16 := by
    have := congrArg (tab (y % 16) ^^^ ·) h
    simp only [← Nat.xor_assoc, Nat.xor_self, Nat.zero_xor] at this
    exact this
  omega

/-- Eight single steps. -/
def bit8 (x : Nat) : Nat := bit4 (bit4 x)
theorem bit8_xor (a b : Nat) : bit8 (a ^^^ b) = bit8 a ^^^ bit8 b := by simp only [bit8, bit4_xor]
theorem bit8_mul (q : Nat) : bit8 (256 * q) = q := by
  unfold bit8
  rw [show 256 * q = 16 * (16 * q) from by omega, bit4_mul, bit4_mul]
theorem bit8_lt (x : Nat) (h : x < 4294967296) : bit8 x < 4294967296 := bit4_lt _ (bit4_lt _ h)
theorem bit8_inj (x y : Nat) (hx : x < 4294967296) (hy : y < 4294967296) (h : bit8 x = bit8 y) : x = y :=
  bit4_inj x y hx hy (bit4_inj _ _ (bit4_lt _ hx) (bit4_lt _ hy) h)
theorem byteN_eq (s : Nat) (c : UInt8) : byteN s c = bit8 (s ^^^ c.toNat) := by
  unfold byteN bit8
  rw [stepN_eq, stepN_eq, Nat.mod_mod, Nat.mod_eq_of_lt (show c.toNat / 16 < 16 by have := c.toNat_lt; omega)]
  congr 1
  conv => rhs; rw [split16 c.toNat, Nat.xor_comm (16 * (c.toNat / 16)), ← Nat.xor_assoc, bit4_xor, bit4_mul]
theorem byteN_inj (s t : Nat) (c : UInt8) (hs : s < 4294967296) (ht : t < 4294967296) (h : byteN s c = byteN t c) : s = t := by
  rw [byteN_eq, byteN_eq] at h
  have hc := c.toNat_lt
  have h1 := bit8_inj _ _ (Nat.xor_lt_two_pow (n := 32) hs (by omega)) (Nat.xor_lt_two_pow (n := 32) ht (by omega)) h
  have := congrArg (· ^^^ c.toNat) h1
  simp only [Nat.xor_assoc, Nat.xor_self, Nat.xor_zero] at this
  exact this
theorem runN_inj (l : List UInt8) : ∀ s t, s < 4294967296 → t < 4294967296 → runN s l = runN t l → s = t := by
  induction l with
  | nil => intro s t _ _ h; exact h
  | cons c l ih => intro s t hs ht h; exact byteN_inj s t c hs ht (ih _ _ (byteN_lt _ _ hs) (byteN_lt _ _ ht) h)

/-- Four bytes as one number. -/
def packN (a b c d : UInt8) : Nat := a.toNat ^^^ (256 * b.toNat ^^^ (65536 * c.toNat ^^^ 16777216 * d.toNat))
def bit32 (x : Nat) : Nat := bit8 (bit8 (bit8 (bit8 x)))
theorem run4 (s : Nat) (a b c d : UInt8) : runN s [a, b, c, d] = bit32 (s ^^^ packN a b c d) := by
  simp only [runN, List.foldl_cons, List.foldl_nil, byteN_eq, bit32, packN]
  rw [show s ^^^ (a.toNat ^^^ (256 * b.toNat ^^^ (65536 * c.toNat ^^^ 16777216 * d.toNat))) = (s ^^^ a.toNat) ^^^ (256 * b.toNat ^^^ (65536 * c.toNat ^^^ 16777216 * d.toNat)) from by ac_rfl]
  rw [bit8_xor (s ^^^ a.toNat), bit8_xor (256 * b.toNat), bit8_mul, bit8_xor (65536 * c.toNat), show 65536 * c.toNat = 256 * (256 * c.toNat) from by omega, show 16777216 * d.toNat = 256 * (65536 * d.toNat) from by omega, bit8_mul, bit8_mul]
  rw [← Nat.xor_assoc (bit8 (s ^^^ a.toNat)), bit8_xor (bit8 (s ^^^ a.toNat) ^^^ b.toNat), bit8_xor (256 * c.toNat), bit8_mul, show 65536 * d.toNat = 256 * (256 * d.toNat) from by omega, bit8_mul]
  rw [← Nat.xor_assoc (bit8 (bit8 (s ^^^ a.toNat) ^^^ b.toNat)), bit8_xor (bit8 (bit8 (s ^^^ a.toNat) ^^^ b.toNat) ^^^ c.toNat), bit8_mul]
theorem bit32_inj (x y : Nat) (hx : x < 4294967296) (hy : y < 4294967296) (h : bit32 x = bit32 y) : x = y :=
  bit8_inj x y hx hy (bit8_inj _ _ (bit8_lt _ hx) (bit8_lt _ hy) (bit8_inj _ _ (bit8_lt _ (bit8_lt _ hx)) (bit8_lt _ (bit8_lt _ hy)) (bit8_inj _ _ (bit8_lt _ (bit8_lt _ (bit8_lt _ hx))) (bit8_lt _ (bit8_lt _ (bit8_lt _ hy))) h)))
theorem xor_add (n a q : Nat) (h : a < 2 ^ n) : a ^^^ (2 ^ n * q) = a + 2 ^ n * q := by
  rw [Nat.add_comm, Nat.two_pow_add_eq_or_of_lt h]
  apply Nat.eq_of_testBit_eq
  intro i
  rw [Nat.testBit_xor, Nat.testBit_or, Nat.testBit_two_pow_mul]
  by_cases hi : i < n
  · simp [Nat.not_le.2 hi]
  · have : a.testBit i = false := Nat.testBit_lt_two_pow (Nat.lt_of_lt_of_le h (Nat.pow_le_pow_right (by decide) (by omega)))
    simp [this]
theorem packN_eq (a b c d : UInt8) : packN a b c d = a.toNat + 256 * b.toNat + 65536 * c.toNat + 16777216 * d.toNat := by
  have ha := a.toNat_lt
  have hb := b.toNat_lt
  have hc := c.toNat_lt
  unfold packN
  have e1 : 65536 * c.toNat ^^^ 16777216 * d.toNat = 65536 * c.toNat + 16777216 * d.toNat := by
    have := xor_add 24 (65536 * c.toNat) d.toNat (by omega)
    simpa using this
  have e2 : 256 * b.toNat ^^^ (65536 * c.toNat + 16777216 * d.toNat) = 256 * b.toNat + (65536 * c.toNat + 16777216 * d.toNat) := by
    have := xor_add 16 (256 * b.toNat) (c.toNat + 256 * d.toNat) (by omega)
    rw [show 65536 * c.toNat + 16777216 * d.toNat = 2 ^ 16 * (c.toNat + 256 * d.toNat) from by omega]
    exact this
  have e3 := xor_add 8 a.toNat (b.toNat + 256 * c.toNat + 65536 * d.toNat) (by omega)
  rw [e1, e2, show 256 * b.toNat + (65536 * c.toNat + 16777216 * d.toNat) = 2 ^ 8 * (b.toNat + 256 * c.toNat + 65536 * d.toNat) from by omega, e3]
  omega
theorem packN_lt (a b c d : UInt8) : packN a b c d < 4294967296 := by
  have := a.toNat_lt
  have := b.toNat_lt
  have := c.toNat_lt
  have := d.toNat_lt
  rw [packN_eq]; omega
theorem packN_inj (a b c d a' b' c' d' : UInt8) (h : packN a b c d = packN a' b' c' d') : a = a' ∧ b = b' ∧ c = c' ∧ d = d' := by
  have := a.toNat_lt
  have := b.toNat_lt
  have := c.toNat_lt
  have := d.toNat_lt
  have := a'.toNat_lt
  have := b'.toNat_lt
  have := c'.toNat_lt
  have := d'.toNat_lt
  rw [packN_eq, packN_eq] at h
  refine ⟨UInt8.toNat_inj.1 ?_, UInt8.toNat_inj.1 ?_, UInt8.toNat_inj.1 ?_, UInt8.toNat_inj.1 ?_⟩ <;> omega

/-- A burst within four bytes is seen. -/
theorem burst (s : Nat) (hs : s < 4294967296) (p q : List UInt8) (a b c d a' b' c' d' : UInt8) (hne : ¬ (a = a' ∧ b = b' ∧ c = c' ∧ d = d')) :
    runN s (p ++ ([a, b, c, d] ++ q)) ≠ runN s (p ++ ([a', b', c', d'] ++ q)) := by
  intro h
  rw [runN_append, runN_append, runN_append, runN_append, run4, run4] at h
  have h0 := runN_lt p s hs
  have hx := Nat.xor_lt_two_pow (n := 32) h0 (packN_lt a b c d)
  have hy := Nat.xor_lt_two_pow (n := 32) h0 (packN_lt a' b' c' d')
  have b32 : ∀ x, x < 4294967296 → bit32 x < 4294967296 := fun x hx => bit8_lt _ (bit8_lt _ (bit8_lt _ (bit8_lt _ hx)))
  have h1 := bit32_inj _ _ hx hy (runN_inj q _ _ (b32 _ hx) (b32 _ hy) h)
  have h2 := congrArg (runN s p ^^^ ·) h1
  simp only [← Nat.xor_assoc, Nat.xor_self, Nat.zero_xor] at h2
  exact hne (packN_inj _ _ _ _ _ _ _ _ h2)

/-- What a row with its right sum behind runs to. -/
def residue : Nat := bit32 4294967295
theorem inv32_xor (x : Nat) (h : x < 4294967296) : inv32 x = 4294967295 ^^^ x := by
  have h1 : (4294967295 : Nat) ^^^ x = (BitVec.allOnes 32 ^^^ BitVec.ofNat 32 x).toNat := by
    rw [BitVec.toNat_xor, BitVec.toNat_allOnes, BitVec.toNat_ofNat, Nat.mod_eq_of_lt h]
  rw [h1, BitVec.allOnes_xor, BitVec.toNat_not, BitVec.toNat_ofNat, Nat.mod_eq_of_lt h]
  rfl
theorem pack_fourN (s : Nat) (h : s < 4294967296) : ∃ a b c d, fourN s = [a, b, c, d] ∧ packN a b c d = s := by
  refine ⟨_, _, _, _, rfl, ?_⟩
  rw [packN_eq]
  have e (n : Nat) : (UInt8.ofNat n).toNat = n % 256 := by simp
  rw [e, e, e, e]; omega
theorem four_iff (s : Nat) (h : s < 4294967296) (a b c d : UInt8) : fourN s = [a, b, c, d] ↔ packN a b c d = s := by
  obtain ⟨a', b', c', d', e, e'⟩ := pack_fourN s h
  rw [e]
  constructor
  · intro hh
    injection hh with h1 hh
    injection hh with h2 hh
    injection hh with h3 hh
    injection hh with h4 _
    rw [← h1, ← h2, ← h3, ← h4]; exact e'
  · intro hh
    obtain ⟨rfl, rfl, rfl, rfl⟩ := packN_inj _ _ _ _ _ _ _ _ (e'.trans hh.symm)
    rfl
theorem sum_iff (p : List UInt8) (a b c d : UInt8) : fourN (nextN 0 p) = [a, b, c, d] ↔ runN (inv32 0) (p ++ [a, b, c, d]) = residue := by
  rw [four_iff _ (nextN_lt _ _), runN_append, run4]
  have h0 := runN_lt p (inv32 0) (inv32_lt 0)
  have hp := packN_lt a b c d
  have hn : nextN 0 p = 4294967295 ^^^ runN (inv32 0) p := inv32_xor _ h0
  rw [hn]
  constructor
  · intro h
    rw [h]
    unfold residue
    congr 1
    rw [Nat.xor_comm 4294967295, ← Nat.xor_assoc, Nat.xor_self, Nat.zero_xor]
  · intro h
    have := bit32_inj _ _ (Nat.xor_lt_two_pow (n := 32) h0 hp) (by decide) h
    rw [← this, Nat.xor_comm (runN (inv32 0) p), Nat.xor_assoc, Nat.xor_self, Nat.xor_zero]
theorem run_put (b : List UInt8) : runN (inv32 0) (putN b) = residue := by
  obtain ⟨a, b', c, d, e, _⟩ := pack_fourN (nextN 0 b) (nextN_lt _ _)
  unfold putN
  rw [e]
  exact (sum_iff b a b' c d).1 e
theorem take_none (l : List UInt8) (h : runN (inv32 0) l ≠ residue) : takeN l = none := by
  unfold takeN
  split
  · rfl
  · rename_i h4
    rw [if_neg]
    intro hf
    have hq : (l.drop (l.length - 4)).length = 4 := by rw [List.length_drop]; omega
    match hd : l.drop (l.length - 4), hq with
    | [a, b, c, d], _ =>
      rw [hd] at hf
      have := (sum_iff _ a b c d).1 hf
      rw [← hd, List.take_append_drop] at this
      exact h this
theorem take_put (b : List UInt8) : takeN (putN b) = some b := by
  have hl : (putN b).length = b.length + 4 := by simp [putN, fourN]
  have h1 : (putN b).take ((putN b).length - 4) = b := by rw [hl]; simp [putN]
  have h2 : (putN b).drop ((putN b).length - 4) = fourN (nextN 0 b) := by rw [hl]; simp [putN]
  unfold takeN
  rw [if_neg (by omega), h1, h2, if_pos rfl]

/-- Three rows put together. -/
theorem byteN_xor3 (s t u : Nat) (a b c : UInt8) : byteN (s ^^^ t ^^^ u) (a ^^^ b ^^^ c) = byteN s a ^^^ byteN t b ^^^ byteN u c := by
  rw [byteN_eq, byteN_eq, byteN_eq, byteN_eq, ← bit8_xor, ← bit8_xor, UInt8.toNat_xor, UInt8.toNat_xor]
  congr 1
  ac_rfl
def xor3 : List UInt8 → List UInt8 → List UInt8 → List UInt8
  | a :: as, b :: bs, c :: cs => (a ^^^ b ^^^ c) :: xor3 as bs cs
  | _, _, _ => []
theorem runN_xor3 : ∀ (a b c : List UInt8) (s t u : Nat), b.length = a.length → c.length = a.length → runN (s ^^^ t ^^^ u) (xor3 a b c) = runN s a ^^^ runN t b ^^^ runN u c
  | [], [], [], s, t, u, _, _ => rfl
  | a :: as, b :: bs, c :: cs, s, t, u, h1, h2 => by
    simp only [xor3, runN, List.foldl_cons]
    rw [byteN_xor3]
    exact runN_xor3 as bs cs _ _ _ (by simpa using h1) (by simpa using h2)
  | a :: as, [], _, _, _, _, h1, _ => by simp at h1
  | a :: as, b :: bs, [], _, _, _, _, h2 => by simp at h2
  | [], b :: bs, _, _, _, _, h1, _ => by simp at h1
  | [], [], c :: cs, _, _, _, _, h2 => by simp at h2
theorem nextN_xor3 (a b c : List UInt8) (h1 : b.length = a.length) (h2 : c.length = a.length) : nextN 0 (xor3 a b c) = nextN 0 a ^^^ nextN 0 b ^^^ nextN 0 c := by
  unfold nextN
  have hi := inv32_lt 0
  have e : inv32 0 = inv32 0 ^^^ inv32 0 ^^^ inv32 0 := by rw [Nat.xor_self, Nat.zero_xor]
  conv => lhs; rw [e]
  rw [runN_xor3 a b c _ _ _ h1 h2]
  rw [inv32_xor _ (Nat.xor_lt_two_pow (n := 32) (Nat.xor_lt_two_pow (n := 32) (runN_lt _ _ hi) (runN_lt _ _ hi)) (runN_lt _ _ hi)), inv32_xor _ (runN_lt a _ hi), inv32_xor _ (runN_lt b _ hi), inv32_xor _ (runN_lt c _ hi)]
  rw [show 4294967295 ^^^ runN (inv32 0) a ^^^ (4294967295 ^^^ runN (inv32 0) b) ^^^ (4294967295 ^^^ runN (inv32 0) c) = (4294967295 ^^^ 4294967295) ^^^ (4294967295 ^^^ (runN (inv32 0) a ^^^ runN (inv32 0) b ^^^ runN (inv32 0) c)) from by ac_rfl, Nat.xor_self, Nat.zero_xor]
theorem stepN_xor (s t h k : Nat) : stepN (s ^^^ t) (h ^^^ k) = stepN s h ^^^ stepN t k := by
  rw [stepN_eq, stepN_eq, stepN_eq, ← bit4_xor, xor_mod16]
  congr 1
  ac_rfl
end Go.Proofs.YtdhgiflmimonlaaDoor
