/- The walks of the sum of bytes: a sum's bytes. -/
import Derived.Test.YtdhgiflmimonlaaDoorCrcWd
namespace Go.Proofs.YtdhgiflmimonlaaDoor
open Go Go.RowKit

def fourV (s : Nat) : Value := .agg #[.int .u8 ((s % 256 : Nat) : Int), .int .u8 ((s / 256 % 256 : Nat) : Int), .int .u8 ((s / 65536 % 256 : Nat) : Int), .int .u8 ((s / 16777216 : Nat) : Int)]

set_option maxHeartbeats 400000 in
theorem fourR_any (s : Nat) (h1 : s < 4294967296) (w : World) :
    Calls Tryd.prog 21 #[.int .u32 s] w fun e w' => e = .returned (fourV s) ∧ Below w.heap.size w w' := by
  go_enter Tryd.func21, Tryd.ntmps21
  go_wp2
  go_returns
  exact ⟨rfl, (Below.refl _ _).alloc (Nat.le_refl _) _⟩

set_option maxHeartbeats 400000 in
theorem four_any (s : Nat) (h1 : s < 4294967296) (w : World) :
    Calls Tryd.prog 20 #[.int .u32 s] w fun e w' => e = .returned (fourV s) ∧ Below w.heap.size w w' := by
  go_enter Tryd.func20, Tryd.ntmps20
  go_wp2
  go_rounds 5
  go_returns
  exact ⟨rfl, (Below.refl _ _).alloc (Nat.le_refl _) _⟩

set_option maxHeartbeats 400000 in
theorem same_any (A B : Option Addr) (c d : Nat) (l m : List UInt8) (w : World) (hA : Rd w A (bvs l)) (hB : Rd w B (bvs m)) :
    Calls Tryd.prog 13 #[.slice A l.length c, .slice B m.length d] w fun e w' => e = .returned (.bool (decide (l = m))) ∧ w' = w := by
  have e1 := run_str hA c 25 5 Tryd.underlying25 Tryd.underlying5
  have e2 := run_str hB d 25 5 Tryd.underlying25 Tryd.underlying5
  go_enter Tryd.func13, Tryd.ntmps13
  go_wp2
  go_returns
  exact ⟨ret_bool (bstr_beq l m), rfl⟩

set_option maxHeartbeats 400000 in
theorem equal_any (A B : Option Addr) (c d : Nat) (l m : List UInt8) (w : World) (hA : Rd w A (bvs l)) (hB : Rd w B (bvs m)) :
    Calls Tryd.prog 22 #[.slice A l.length c, .slice B m.length d] w fun e w' => e = .returned (.bool (decide (l = m))) ∧ w' = w := by
  have e1 := run_str hA c 25 5 Tryd.underlying25 Tryd.underlying5
  have e2 := run_str hB d 25 5 Tryd.underlying25 Tryd.underlying5
  go_enter Tryd.func22, Tryd.ntmps22
  go_wp2
  go_returns
  exact ⟨ret_bool (bstr_beq l m), rfl⟩

def sumTo (ls : List (List UInt8)) (k : Nat) : Nat := (ls.take k).foldl nextN 0
theorem sumTo_lt (ls : List (List UInt8)) (k : Nat) : sumTo ls k < 4294967296 := sumN_lt _
theorem sumTo_succ (ls : List (List UInt8)) (k : Nat) (l : List UInt8) (h : ls[k]? = some l) : sumTo ls (k + 1) = nextN (sumTo ls k) l := by
  unfold sumTo
  rw [take_snoc _ k l h, List.foldl_append]; rfl

set_option maxHeartbeats 400000 in
theorem sum_any (A : Option Addr) (c : Nat) (ls : List (List UInt8)) (hl : ls.length ≤ 1099511627776) (w : World) (hA : IsRows w A ls) (hr : RowsOK w) :
    Calls Tryd.prog 18 #[.slice A ls.length c] w fun e w' => e = .returned (.int .u32 (sumN ls : Nat)) ∧ Below w.heap.size w w' := by
  have hfin := Lib.hid (show sumTo ls ls.length = sumN ls from by unfold sumTo; rw [List.take_length]; rfl)
  go_enter Tryd.func18, Tryd.ntmps18
  go_wp2
  go_loopw [2, 4, 7] (fun t _ i wr => ∃ k : Nat, k ≤ ls.length ∧ i = .int .i64 k ∧ t = .int .u32 (sumTo ls k : Nat) ∧ Below w.heap.size w wr) (fun _ _ i _ => ls.length - (intOf i).toNat)
  case atStart => exact ⟨0, by omega, rfl, rfl, Below.refl _ _⟩
  case round =>
    obtain ⟨k, hk, rfl, rfl, hB⟩ := hrel
    by_cases hk4 : k < ls.length
    · obtain ⟨b, o, A', c', l, rfl, hb, hc, ⟨hll, hlc, hcm⟩, hrd, hlk⟩ := (hA.below hB).at_ hk4
      have Hs := Lib.hid (sumTo_succ ls k l hlk)
      have hlt := sumTo_lt ls k
      have hr2 := hr.below hB
      clear hlk
      go_wp2_with (go_at_call 11; refine (next_any _ hlt _ _ _ hll _ hrd hr2).mono ?_; rintro e w' ⟨rfl, hB2⟩)
      go_roundw
      case rel => exact ⟨k + 1, by omega, by go_num, by rw [Hs.out], bTr hB hB2⟩
      case measure => simp [intOf]; omega
    · obtain rfl : k = ls.length := by omega
      go_wp2
      go_ret
      exact ⟨ret_int (by rw [hfin.out]), hB⟩

set_option maxHeartbeats 400000 in
theorem sumR_any (A : Option Addr) (c : Nat) (ls : List (List UInt8)) (hl : ls.length ≤ 1099511627776) (w : World) (hA : IsRows w A ls) :
    Calls Tryd.prog 19 #[.slice A ls.length c] w fun e w' => e = .returned (.int .u32 (sumN ls : Nat)) ∧ Below w.heap.size w w' := by
  have hfin := Lib.hid (show sumTo ls ls.length = sumN ls from by unfold sumTo; rw [List.take_length]; rfl)
  go_enter Tryd.func19, Tryd.ntmps19
  go_wp2
  go_loopw [3, 4] (fun t i wr => ∃ k : Nat, k ≤ ls.length ∧ i = .int .i64 k ∧ t = .int .u32 (sumTo ls k : Nat) ∧ Below w.heap.size w wr) (fun _ i _ => ls.length - (intOf i).toNat)
  case atStart => exact ⟨0, by omega, rfl, rfl, Below.refl _ _⟩
  case round =>
    obtain ⟨k, hk, rfl, rfl, hB⟩ := hrel
    by_cases hk4 : k < ls.length
    · obtain ⟨b, o, A', c', l, rfl, hb, hc, ⟨hll, hlc, hcm⟩, hrd, hlk⟩ := (hA.below hB).at_ hk4
      have Hs := Lib.hid (sumTo_succ ls k l hlk)
      have hlt := sumTo_lt ls k
      have hmx : l.length ≤ maxLen := by unfold maxLen; omega
      clear hlk
      go_wp2_with (go_at_call 12; refine (nextR_any _ hlt _ _ _ hmx _ hrd).mono ?_; rintro e w' ⟨rfl, hB2⟩)
      go_roundw
      case rel => exact ⟨k + 1, by omega, by go_num, by rw [Hs.out], bTr hB hB2⟩
      case measure => simp [intOf]; omega
    · obtain rfl : k = ls.length := by omega
      go_wp2
      go_ret
      exact ⟨ret_int (by rw [hfin.out]), hB⟩
end Go.Proofs.YtdhgiflmimonlaaDoor
