/- Plain law of the sum of bytes: steps, sums, their linearity; no program in sight. -/
namespace Go.Proofs.YtdhgiflmimonlaaDoor

def tabL : List Nat := [0x00000000, 0x105ec76f, 0x20bd8ede, 0x30e349b1, 0x417b1dbc, 0x5125dad3, 0x61c69362, 0x7198540d, 0x82f63b78, 0x92a8fc17, 0xa24bb5a6, 0xb21572c9, 0xc38d26c4, 0xd3d3e1ab, 0xe330a81a, 0xf36e6f75]
def tab (i : Nat) : Nat := tabL.getD i 0
def stepN (s h : Nat) : Nat := tab ((s ^^^ h) &&& 15) ^^^ (s / 16)
def inv32 (s : Nat) : Nat := 4294967295 - s

theorem tab_lt (i : Nat) : tab i < 4294967296 := by
  unfold tab
  rcases Nat.lt_or_ge i 16 with h | h
  · have : ∀ j, j < 16 → tabL.getD j 0 < 4294967296 := by decide
    exact this i h
  · rw [List.getD_eq_getElem?_getD, List.getElem?_eq_none (by simpa [tabL] using h)]
    decide

theorem stepN_lt (s h : Nat) (hs : s < 4294967296) : stepN s h < 4294967296 :=
  Nat.xor_lt_two_pow (n := 32) (tab_lt _) (by omega)

/-- One bit's step, as the reference has it. -/
def bitN (s : Nat) : Nat := if s % 2 = 1 then (s / 2) ^^^ 0x82f63b78 else s / 2

theorem xor_div2 (a b : Nat) : (a ^^^ b) / 2 = (a / 2) ^^^ (b / 2) := Nat.xor_div_two
theorem xor_mod2 (a b : Nat) : (a ^^^ b) % 2 = (a % 2) ^^^ (b % 2) := by
  have := @Nat.xor_mod_two_pow a b 1
  simpa using this
theorem xor_mod_two_cases (a b : Nat) : (a ^^^ b) % 2 = (a % 2 + b % 2) % 2 := by
  rw [xor_mod2]
  rcases Nat.mod_two_eq_zero_or_one a with h | h <;> rcases Nat.mod_two_eq_zero_or_one b with h' | h' <;> rw [h, h'] <;> rfl

theorem bitN_xor (a b : Nat) : bitN (a ^^^ b) = bitN a ^^^ bitN b := by
  unfold bitN
  rw [xor_mod_two_cases, xor_div2]
  rcases Nat.mod_two_eq_zero_or_one a with h | h <;> rcases Nat.mod_two_eq_zero_or_one b with h' | h' <;> rw [h, h'] <;> simp
  · simp [Nat.xor_assoc]
  · ac_rfl
  · rw [show a / 2 ^^^ 2197175160 ^^^ (b / 2 ^^^ 2197175160) = (a / 2 ^^^ b / 2) ^^^ (2197175160 ^^^ 2197175160) from by ac_rfl, Nat.xor_self, Nat.xor_zero]

def bit4 (s : Nat) : Nat := bitN (bitN (bitN (bitN s)))
theorem bit4_xor (a b : Nat) : bit4 (a ^^^ b) = bit4 a ^^^ bit4 b := by simp only [bit4, bitN_xor]
theorem bit4_mul (q : Nat) : bit4 (16 * q) = q := by
  have h1 : bitN (16 * q) = 8 * q := by unfold bitN; rw [if_neg (by omega)]; omega
  have h2 : bitN (8 * q) = 4 * q := by unfold bitN; rw [if_neg (by omega)]; omega
  have h3 : bitN (4 * q) = 2 * q := by unfold bitN; rw [if_neg (by omega)]; omega
  have h4 : bitN (2 * q) = q := by unfold bitN; rw [if_neg (by omega)]; omega
  simp only [bit4, h1, h2, h3, h4]
theorem bit4_low : ∀ r, r < 16 → bit4 r = tab r := by decide

theorem split16 (x : Nat) : x = (16 * (x / 16)) ^^^ (x % 16) := by
  have h := Nat.two_pow_add_eq_or_of_lt (i := 4) (b := x % 16) (by omega) (x / 16)
  have h2 : 2 ^ 4 * (x / 16) + x % 16 = x := by omega
  rw [h2] at h
  apply Nat.eq_of_testBit_eq
  intro i
  rw [Nat.testBit_xor]
  have h16 : (16 * (x / 16)) = 2 ^ 4 * (x / 16) := by omega
  rw [h16, Nat.testBit_two_pow_mul]
  have : x % 16 = x % 2 ^ 4 := rfl
  rw [this, Nat.testBit_mod_two_pow]
  by_cases hi : i < 4
  · simp [hi, Nat.not_le.2 hi]
  · have hi' : 4 ≤ i := by omega
    simp only [hi', decide_true, Bool.true_and, hi, decide_false, Bool.false_and, Bool.xor_false]
    rw [show x / 16 = x / 2 ^ 4 from rfl, Nat.testBit_div_two_pow]
    congr 1; omega

theorem and15 (x : Nat) : x &&& 15 = x % 16 := Nat.and_two_pow_sub_one_eq_mod x 4
theorem xor_div16 (a b : Nat) : (a ^^^ b) / 16 = (a / 16) ^^^ (b / 16) := by
  have := @Nat.xor_div_two_pow a b 4
  simpa using this
theorem xor_mod16 (a b : Nat) : (a ^^^ b) % 16 = (a % 16) ^^^ (b % 16) := by
  have := @Nat.xor_mod_two_pow a b 4
  simpa using this

/-- A step of a sum is a step of what it is with the half put to it. -/
theorem stepN_eq (s h : Nat) : stepN s h = bit4 (s ^^^ (h % 16)) := by
  rw [split16 (s ^^^ (h % 16)), bit4_xor, bit4_mul, bit4_low _ (Nat.mod_lt _ (by omega))]
  unfold stepN
  rw [and15, xor_div16, Nat.div_eq_of_lt (Nat.mod_lt h (by omega : 16 > 0)), Nat.xor_zero, Nat.xor_comm, xor_mod16, xor_mod16 s (h % 16), Nat.mod_mod]

def byteN (s : Nat) (c : UInt8) : Nat := stepN (stepN s (c.toNat % 16)) (c.toNat / 16)
def runN (s : Nat) (l : List UInt8) : Nat := l.foldl byteN s
def nextN (s : Nat) (l : List UInt8) : Nat := inv32 (runN (inv32 s) l)
def sumN (ls : List (List UInt8)) : Nat := ls.foldl nextN 0
def fourN (s : Nat) : List UInt8 := [UInt8.ofNat s, UInt8.ofNat (s / 256), UInt8.ofNat (s / 65536), UInt8.ofNat (s / 16777216)]
def putN (l : List UInt8) : List UInt8 := l ++ fourN (nextN 0 l)
/-- What is taken: the bytes ahead of the sum, if it is theirs. -/
def takeN (l : List UInt8) : Option (List UInt8) :=
  if l.length < 4 then none
  else if fourN (nextN 0 (l.take (l.length - 4))) = l.drop (l.length - 4) then some (l.take (l.length - 4)) else none

theorem byteN_lt (s : Nat) (c : UInt8) (h : s < 4294967296) : byteN s c < 4294967296 := stepN_lt _ _ (stepN_lt _ _ h)
theorem runN_lt (l : List UInt8) : ∀ s, s < 4294967296 → runN s l < 4294967296 := by
  induction l with
  | nil => intro s h; exact h
  | cons c l ih => intro s h; exact ih _ (byteN_lt s c h)
theorem inv32_lt (s : Nat) : inv32 s < 4294967296 := by unfold inv32; omega
theorem nextN_lt (s : Nat) (l : List UInt8) : nextN s l < 4294967296 := inv32_lt _
theorem sumN_lt (ls : List (List UInt8)) : sumN ls < 4294967296 := by
  unfold sumN
  suffices ∀ s, s < 4294967296 → ls.foldl nextN s < 4294967296 from this 0 (by decide)
  induction ls with
  | nil => intro s h; exact h
  | cons l ls ih => intro s h; exact ih _ (nextN_lt _ _)
theorem runN_append (s : Nat) (l m : List UInt8) : runN s (l ++ m) = runN (runN s l) m := by simp [runN]
theorem inv32_inv32 (s : Nat) (h : s < 4294967296) : inv32 (inv32 s) = s := by unfold inv32; omega
theorem nextN_append (s : Nat) (l m : List UInt8) : nextN s (l ++ m) = nextN (nextN s l) m := by
  unfold nextN
  rw [runN_append, inv32_inv32 _ (runN_lt _ _ (inv32_lt _))]

end Go.Proofs.YtdhgiflmimonlaaDoor
