/- The walks of the sum of bytes. -/
import Derived.Test.YtdhgiflmimonlaaDoorRows
import Derived.Test.YtdhgiflmimonlaaDoorBase
import Derived.Test.YtdhgiflmimonlaaDoorCrcPl
namespace Go.Proofs.YtdhgiflmimonlaaDoor
open Go Go.RowKit

/-- The table as it lies in memory. -/
def RowsOK (w : World) : Prop := ∀ i, i < 16 → w.cell? ⟨0, i, none⟩ = some (.int .u32 (tab i : Nat))

set_option maxHeartbeats 400000 in
theorem step_any (s h : Nat) (h1 : s < 4294967296) (h3 : h < 256) (w : World) (hr : RowsOK w) :
    Calls Tryd.prog 16 #[.int .u32 s, .int .u8 h] w fun e w' => e = .returned (.int .u32 (stepN s h : Nat)) ∧ w = w' := by
  have e1 : bits BinOp.xor IntKind.u32 (s : Int) (h : Int) = ((s ^^^ h : Nat) : Int) := u32_xor_nat s h h1 (by omega)
  have hx : s ^^^ h < 2 ^ 32 := Nat.xor_lt_two_pow (by omega) (by omega)
  have e2 : bits BinOp.and IntKind.u32 ((s ^^^ h : Nat) : Int) 15 = (((s ^^^ h) &&& 15 : Nat) : Int) := u32_and_nat (s ^^^ h) 15 (by omega) (by omega)
  have hy : (s ^^^ h) &&& 15 < 16 := by rw [nat_mask4]; omega
  have hc := hr _ hy
  have e3 := Lib.hid (show bits BinOp.xor IntKind.u32 ((tab ((s ^^^ h) &&& 15) : Nat) : Int) ((s / 16 : Nat) : Int) = ((tab ((s ^^^ h) &&& 15) ^^^ (s / 16) : Nat) : Int) from u32_xor_nat _ _ (tab_lt _) (by omega))
  go_enter Tryd.func16, Tryd.ntmps16
  go_wp2
  go_ret
  exact ⟨ret_int e3.out, rfl⟩

theorem i4_or (k : Nat) (h : k ≤ 4) : k = 4 ∨ k < 4 := by omega
def bitIter : Nat → Nat → Nat
  | 0, s => s
  | k + 1, s => bitN (bitIter k s)
theorem bitIter_lt (s : Nat) (h : s < 4294967296) : ∀ k, bitIter k s < 4294967296
  | 0 => h
  | k + 1 => by
    have := bitIter_lt s h k
    show bitN _ < _
    unfold bitN
    split
    · exact Nat.xor_lt_two_pow (n := 32) (by omega) (by decide)
    · omega

set_option maxHeartbeats 400000 in
theorem stepR_any (s h : Nat) (h1 : s < 4294967296) (h3 : h < 256) (w : World) :
    Calls Tryd.prog 17 #[.int .u32 s, .int .u8 h] w fun e w' => e = .returned (.int .u32 (stepN s h : Nat)) ∧ w = w' := by
  have e1 : bits BinOp.xor IntKind.u32 (s : Int) ((h : Int) % 16) = ((s ^^^ (h % 16) : Nat) : Int) := by
    rw [show ((h : Int) % 16) = ((h % 16 : Nat) : Int) from by omega]; exact u32_xor_nat s _ h1 (by omega)
  have hx : s ^^^ (h % 16) < 2 ^ 32 := Nat.xor_lt_two_pow (by omega) (by omega)
  have hfin := Lib.hid (stepN_eq s h)
  obtain ⟨x, hxx⟩ : ∃ x, x = s ^^^ (h % 16) := ⟨_, rfl⟩
  rw [← hxx] at e1 hx hfin
  clear hxx
  go_enter Tryd.func17, Tryd.ntmps17
  go_wp2
  clear e1
  go_loop [0, 5, 6] (fun t i _ => ∃ k : Nat, k ≤ 4 ∧ i = .int .i64 k ∧ t = .int .u32 (bitIter k x : Nat)) (fun _ i _ => 4 - (intOf i).toNat)
  case atStart => exact ⟨0, by omega, rfl, rfl⟩
  case round =>
    obtain ⟨k, hk, rfl, rfl⟩ := hrel
    have hlt := bitIter_lt x (by omega) k
    have hs : bitIter (k + 1) x = bitN (bitIter k x) := rfl
    have Hs := Lib.hid hs
    clear hs
    by_cases hk4 : k < 4
    · obtain ⟨y, hy⟩ : ∃ y, y = bitIter k x := ⟨_, rfl⟩
      rw [← hy] at Hs hlt ⊢
      clear hy
      by_cases hodd : y % 2 = 1
      · have o1 : (((y : Int) % 2) == 1) = true := by simp; omega
        have e3 : bits BinOp.xor IntKind.u32 ((y : Int) / 2) 2197175160 = (((y / 2) ^^^ 2197175160 : Nat) : Int) := by
          rw [show ((y : Int) / 2) = ((y / 2 : Nat) : Int) from by omega]; exact u32_xor_nat _ 2197175160 (by omega) (by decide)
        have Hb := Lib.hid (show bitN y = (y / 2) ^^^ 2197175160 from by unfold bitN; rw [if_pos hodd])
        clear hodd
        go_wp2
        go_round
        case rel => exact ⟨k + 1, by omega, by go_num, by rw [Hs.out, Hb.out]⟩
        case measure => simp [intOf]; omega
      · have o1 : (((y : Int) % 2) == 1) = false := by simp; omega
        have Hb := Lib.hid (show bitN y = (y / 2) from by unfold bitN; rw [if_neg hodd])
        clear hodd
        go_wp2
        go_round
        case rel => exact ⟨k + 1, by omega, by go_num, by rw [Hs.out, Hb.out]; simp⟩
        case measure => simp [intOf]; omega
    · go_wp2
      go_ret
      obtain rfl : k = 4 := by omega
      exact ⟨ret_int (by rw [hfin.out]; rfl), rfl⟩

/-- The same at whatever numbers stand at the call. -/
theorem stepR_i (s h : Int) (a b : Nat) (hs : s = a) (hh : h = b) (h1 : a < 4294967296) (h3 : b < 256) (w : World) :
    Calls Tryd.prog 17 #[.int .u32 s, .int .u8 h] w fun e w' => e = .returned (.int .u32 (stepN a b : Nat)) ∧ w' = w := by
  subst hs; subst hh
  exact (stepR_any a b h1 h3 w).mono fun _ _ ⟨h, h'⟩ => ⟨h, h'.symm⟩
theorem step_i (s h : Int) (a b : Nat) (hs : s = a) (hh : h = b) (h1 : a < 4294967296) (h3 : b < 256) (w : World) (hr : RowsOK w) :
    Calls Tryd.prog 16 #[.int .u32 s, .int .u8 h] w fun e w' => e = .returned (.int .u32 (stepN a b : Nat)) ∧ w' = w := by
  subst hs; subst hh
  exact (step_any a b h1 h3 w hr).mono fun _ _ ⟨h, h'⟩ => ⟨h, h'.symm⟩
end Go.Proofs.YtdhgiflmimonlaaDoor
