/- The walks of numbers: which are numbers. -/
import Derived.Test.YtefpagijgiggmabRows
import Derived.Test.YtefpagijgiggmabApp
import Derived.Test.YtefpagijgiggmabNumPl
import Derived.Test.YtefpagijgiggmabElemI
namespace Go.Proofs.Ytefpagijgiggmab
open Go Go.RowKit

theorem is1_any (n : Int) (w : World) : Calls Try.prog 29 #[.int .i64 n] w fun e w' => e = .returned (.bool (badN n)) ∧ w' = w := by
  rcases Int.lt_or_le n 0 with hx | hx
  · have H := Lib.hid (badN_true.2 (.inl hx))
    go_enter Try.func29, Try.ntmps29
    go_wp2
    go_ret
    exact ⟨ret_bool (by rw [H.out]), rfl⟩
  · rcases Int.lt_or_le 1073741824 n with hy | hy
    · have H := Lib.hid (badN_true.2 (.inr hy))
      go_enter Try.func29, Try.ntmps29
      go_wp2
      go_ret
      exact ⟨ret_bool (by rw [H.out]; try (simp; try omega)), rfl⟩
    · have H := Lib.hid (badN_false.2 ⟨hx, hy⟩)
      go_enter Try.func29, Try.ntmps29
      go_wp2
      go_ret
      exact ⟨ret_bool (by rw [H.out]; try (simp; try omega)), rfl⟩

set_option maxHeartbeats 1000000 in
theorem index_any (A : Option Addr) (c : Nat) (l : List Int) (hl : l.length ≤ 1099511627776) (w : World) (hA : Rd w A (ivs l)) :
    Calls Try.prog 31 #[.slice A l.length c, .func (.func 29) #[] #[]] w fun e w' => ∃ r : Int, e = .returned (.int .i64 r) ∧ (-1 ≤ r ∧ r ≤ l.length) ∧ decide (0 ≤ r) = l.any badN ∧ w' = w := by
  go_enter Try.func31, Try.ntmps31
  go_wp2
  go_loop [5, 8] (fun _ i => ∃ k : Nat, k ≤ l.length ∧ i = .int .i64 k ∧ (l.take k).any badN = false) (fun _ i => l.length - (intOf i).toNat)
  case atStart => exact ⟨0, by omega, rfl, rfl⟩
  case round =>
    obtain ⟨k, hk, rfl, h0⟩ := hrel
    by_cases hk4 : k < l.length
    · obtain ⟨b, o, x, rfl, hb, hc, hx⟩ := hA.int hk4
      by_cases hbx : badN x = true
      · have Hx := Lib.hid hbx
        clear hbx
        go_wp2_with (go_at_call 29; refine (is1_any x _).mono ?_; rintro e w1 ⟨rfl, rfl⟩; rw [Hx.out])
        go_ret
        exact ⟨_, rfl, by omega, by rw [any_of_at l k x hx Hx.out]; simp, rfl⟩
      · have Hx := Lib.hid (show badN x = false by simpa using hbx)
        clear hbx
        go_wp2_with (go_at_call 29; refine (is1_any x _).mono ?_; rintro e w1 ⟨rfl, rfl⟩; rw [Hx.out])
        go_round
        case rel => exact ⟨k + 1, by omega, by go_num, any_take_succ l k x hx h0 Hx.out⟩
        case measure => simp [intOf]; omega
    · obtain rfl : k = l.length := by omega
      rw [List.take_length] at h0
      have H0 := Lib.hid h0
      clear h0
      go_wp2
      go_ret
      exact ⟨_, rfl, by omega, by rw [H0.out]; simp, rfl⟩

theorem contains_any (A : Option Addr) (c : Nat) (l : List Int) (hl : l.length ≤ 1099511627776) (w : World) (hA : Rd w A (ivs l)) :
    Calls Try.prog 28 #[.slice A l.length c, .func (.func 29) #[] #[]] w fun e w' => e = .returned (.bool (l.any badN)) ∧ w' = w := by
  obtain ⟨res, hres⟩ : ∃ r, r = l.any badN := ⟨_, rfl⟩
  rw [← hres]
  have Hr := Lib.hid hres
  clear hres
  go_enter Try.func28, Try.ntmps28
  go_wp2_with (go_at_call 31; refine (index_any A c l hl _ hA).mono ?_; rintro e w1 ⟨r, rfl, hr, hd, rfl⟩; rw [← Hr.out] at hd; replace hd := Lib.hid hd)
  go_ret
  exact ⟨ret_bool (by rw [← hd.out]; try simp), rfl⟩

theorem is_any (A : Option Addr) (n c : Nat) (l : List Int) (hn : n = l.length) (hl : l.length ≤ 1099511627776) (w : World) (hA : Rd w A (ivs l)) :
    Calls Try.prog 16 #[.slice A n c] w fun e w' => e = .returned (.bool (isN l)) ∧ w' = w := by
  subst hn
  have H := Lib.hid (show isN l = !(l.any badN) from rfl)
  go_enter Try.func16, Try.ntmps16
  go_wp2_with (go_at_call 28; refine (contains_any A c l hl _ hA).mono ?_; rintro e w1 ⟨rfl, rfl⟩)
  go_ret
  exact ⟨ret_bool (by rw [H.out]), rfl⟩

set_option maxHeartbeats 1000000 in
theorem isR_any (A : Option Addr) (n c : Nat) (l : List Int) (hn : n = l.length) (hl : l.length ≤ 1099511627776) (w : World) (hA : Rd w A (ivs l)) :
    Calls Try.prog 17 #[.slice A n c] w fun e w' => e = .returned (.bool (isN l)) ∧ w' = w := by
  subst hn
  obtain ⟨res, hres⟩ : ∃ r, r = isN l := ⟨_, rfl⟩
  rw [← hres]
  have H := Lib.hid (show res = !(l.any badN) from hres)
  clear hres
  go_enter Try.func17, Try.ntmps17
  go_wp2
  go_loop [3] (fun i => ∃ k : Nat, k ≤ l.length ∧ i = .int .i64 k ∧ (l.take k).any badN = false) (fun i => l.length - (intOf i).toNat)
  case atStart => exact ⟨0, by omega, rfl, rfl⟩
  case round =>
    obtain ⟨k, hk, rfl, h0⟩ := hrel
    have H0 := Lib.hid h0
    clear h0
    by_cases hk4 : k < l.length
    · obtain ⟨b, o, x, rfl, hb, hc, hx⟩ := hA.int hk4
      have Hk := Lib.hid hx
      clear hx
      rcases Int.lt_or_le x 0 with hx | hx
      · go_wp2
        go_ret
        exact ⟨ret_bool (by rw [H.out, any_of_at l k x Hk.out (badN_true.2 (.inl hx))]; rfl), rfl⟩
      · rcases Int.lt_or_le 1073741824 x with hy | hy
        · go_wp2
          go_ret
          exact ⟨ret_bool (by rw [H.out, any_of_at l k x Hk.out (badN_true.2 (.inr hy))]; rfl), rfl⟩
        · go_wp2
          go_round
          case rel => exact ⟨k + 1, by omega, by go_num, any_take_succ l k x Hk.out H0.out (badN_false.2 ⟨hx, hy⟩)⟩
          case measure => simp [intOf]; omega
    · obtain rfl : k = l.length := by omega
      have H1 := Lib.hid (show l.any badN = false by simpa using H0.out)
      clear H0
      go_wp2
      go_ret
      exact ⟨ret_bool (by rw [H.out, H1.out]; rfl), rfl⟩
end Go.Proofs.Ytefpagijgiggmab
