/- The walks of the sum of bytes: the reference's Next and Sum. -/
import Derived.Test.YtdhgiflmimonlaaDoorCrcWa
namespace Go.Proofs.YtdhgiflmimonlaaDoor
open Go Go.RowKit

theorem take_snoc {α : Type} (l : List α) (k : Nat) (u : α) (h : l[k]? = some u) : l.take (k + 1) = l.take k ++ [u] := by
  rw [List.take_add_one, h]; rfl

theorem Rd.byte {w : World} {A : Option Addr} {l : List UInt8} (h : Rd w A (bvs l)) {k : Nat} (hk : k < l.length) :
    ∃ b o c, A = some ⟨b, o, none⟩ ∧ b < w.heap.size ∧ w.cell? ⟨b, o + k, none⟩ = some (.int .u8 ((UInt8.toNat c : Nat) : Int)) ∧ c.toNat < 256 ∧ l[k]? = some c := by
  have hu : (bvs l)[k]? = some (bv l[k]) := by simp [bvs, hk]
  obtain ⟨b, o, e, hb, hc⟩ := h k _ hu
  exact ⟨b, o, l[k], e, hb, hc, l[k].toNat_lt, by simp [hk]⟩

theorem inv_bits (s : Nat) (h : s < 4294967296) : bits BinOp.xor IntKind.u32 IntKind.u32.max (s : Int) = ((inv32 s : Nat) : Int) := by
  have e : IntKind.u32.max = ((4294967295 : Nat) : Int) := by decide
  rw [e, u32_xor_nat _ _ (by decide) h]
  have h1 : (4294967295 : Nat) ^^^ s = (BitVec.allOnes 32 ^^^ BitVec.ofNat 32 s).toNat := by
    rw [BitVec.toNat_xor, BitVec.toNat_allOnes, BitVec.toNat_ofNat, Nat.mod_eq_of_lt h]
  rw [h1, BitVec.allOnes_xor, BitVec.toNat_not, BitVec.toNat_ofNat, Nat.mod_eq_of_lt h]
  rfl

set_option maxHeartbeats 400000 in
theorem nextR_any (s : Nat) (h1 : s < 4294967296) (A : Option Addr) (c : Nat) (l : List UInt8) (hl : l.length ≤ maxLen) (w : World) (hA : Rd w A (bvs l)) :
    Calls Tryd.prog 12 #[.int .u32 s, .slice A l.length c] w fun e w' => e = .returned (.int .u32 (nextN s l : Nat)) ∧ Below w.heap.size w w' := by
  unfold maxLen at hl
  have hfin := Lib.hid (show nextN s l = inv32 (runN (inv32 s) l) from rfl)
  have hi := inv32_lt s
  have e1 := inv_bits s h1
  obtain ⟨x, hx⟩ : ∃ x, x = inv32 s := ⟨_, rfl⟩
  rw [← hx] at hi hfin e1
  clear hx
  go_enter Tryd.func12, Tryd.ntmps12
  go_wp2
  clear e1
  go_loopw [0, 5] (fun t i wr => ∃ k : Nat, k ≤ l.length ∧ i = .int .i64 k ∧ t = .int .u32 (runN x (l.take k) : Nat) ∧ Below w.heap.size w wr) (fun _ i _ => l.length - (intOf i).toNat)
  case atStart => exact ⟨0, by omega, rfl, rfl, Below.refl _ _⟩
  case round =>
    obtain ⟨k, hk, rfl, rfl, hB⟩ := hrel
    have hlt := runN_lt (l.take k) x hi
    by_cases hk4 : k < l.length
    · have hA' := hA.below hB
      obtain ⟨b, o, ch, rfl, hb, hc, hch, hlk⟩ := hA'.byte hk4
      have Hs := Lib.hid (show runN x (l.take (k + 1)) = stepN (stepN (runN x (l.take k)) (ch.toNat % 16)) (ch.toNat / 16) from by rw [take_snoc l k ch hlk, runN_append]; rfl)
      clear hlk
      obtain ⟨y, hy⟩ : ∃ y, y = runN x (l.take k) := ⟨_, rfl⟩
      rw [← hy] at Hs hlt ⊢
      clear hy
      obtain ⟨z, hz⟩ : ∃ z, z = ch.toNat := ⟨_, rfl⟩
      rw [← hz] at Hs hch hc
      clear hz
      have hlt2 := stepN_lt y (z % 16) hlt
      go_wp2
      go_quiet ((first
        | (go_at_call 17; exact Calls.quiet_of_same (stepR_i _ _ y (z % 16) (by omega) (by omega) hlt (by omega) _))
        | (go_at_call 17; exact Calls.quiet_of_same (stepR_i _ _ (stepN y (z % 16)) (z / 16) (by omega) (by omega) hlt2 (by omega) _))))
      go_wp2
      go_roundw
      case rel => exact ⟨k + 1, by omega, by go_num, by rw [Hs.out], bDrewN hB _⟩
      case measure => simp [intOf]; omega
    · have e2 := inv_bits (runN x (l.take k)) hlt
      obtain rfl : k = l.length := by omega
      have e3 := Lib.hid (show l.take l.length = l from List.take_length)
      go_wp2
      go_ret
      exact ⟨ret_int (by rw [hfin.out, ← e3.out]; simpa using e2), hB⟩
end Go.Proofs.YtdhgiflmimonlaaDoor
