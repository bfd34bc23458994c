/- The walk of NumOrder. -/
import Derived.Test.YtefpagijgiggmabNumWk
import Derived.Test.YtefpagijgiggmabNumOrdPl
namespace Go.Proofs.Ytefpagijgiggmab
open Go Go.RowKit

theorem one_isN (n : Nat) (h : n ≤ 1073741824) : isN [(n : Int)] = true := by simp [isN, badN]; omega
theorem one_err (n : Nat) (h : n ≤ 1073741824) : errN [(n : Int)] = 0 := if_pos (one_isN n h)
theorem one_long (n : Nat) (h : n ≤ 1073741824) : longR [(n : Int)] = long1 n := by unfold longR; rw [if_pos (one_isN n h)]; simp [longL]
theorem one_short (n : Nat) (h : n ≤ 1073741824) : shortR [(n : Int)] = short1 n := by unfold shortR; rw [if_pos (one_isN n h)]; simp [shortL]
theorem long_one (n : Nat) (h : n ≤ 1073741824) (A : Option Addr) (c : Nat) (w : World) (hA : Rd w A (ivs [(n : Int)])) :
    Calls Try.prog 9 #[.slice A 1 c] w fun e w' => ∃ A' c', e = .returned (.tuple #[.slice A' 5 c', .int .i64 0]) ∧ (5 ≤ c' ∧ c' ≤ maxLen) ∧ Rd w' A' (bvs (long1 n)) ∧ Below w.heap.size w w' := by
  refine (long_any A 1 c [(n : Int)] rfl (by simp) w hA).mono ?_
  rintro e w' ⟨v, rfl, ho, hb⟩
  rw [one_long n h] at ho
  rw [one_err n h]
  obtain ⟨A', c', rfl, hc⟩ := own_slice ho
  rw [long1_len] at hc
  exact ⟨A', c', by rw [long1_len], hc, Rd.of_own ho, hb⟩
theorem short_one (n k : Nat) (hk : (short1 n).length = k) (h : n ≤ 1073741824) (A : Option Addr) (c : Nat) (w : World) (hA : Rd w A (ivs [(n : Int)])) :
    Calls Try.prog 10 #[.slice A 1 c] w fun e w' => ∃ A' c', e = .returned (.tuple #[.slice A' k c', .int .i64 0]) ∧ (k ≤ c' ∧ c' ≤ maxLen) ∧ Rd w' A' (bvs (short1 n)) ∧ Below w.heap.size w w' := by
  subst hk
  refine (short_any A 1 c [(n : Int)] rfl (by simp) w hA).mono ?_
  rintro e w' ⟨v, rfl, ho, hb⟩
  rw [one_short n h] at ho
  rw [one_err n h]
  obtain ⟨A', c', rfl, hc⟩ := own_slice ho
  exact ⟨A', c', rfl, hc, Rd.of_own ho, hb⟩

set_option maxHeartbeats 2000000 in
theorem order_bad (n m : Int) (w : World) (hb : n < 0 ∨ m < n ∨ 1073741824 < m) :
    Calls Try.prog 3 #[.int .i64 n, .int .i64 m] w fun e w' => e = .returned (.bool true) ∧ Below w.heap.size w w' := by
  by_cases h1 : n < 0
  · go_enter Try.func3, Try.ntmps3
    go_wp2_with (go_at_call 8; refine (wakes_any _).mono ?_; rintro e w2 ⟨rfl, hB2⟩)
    go_returns
    exact ⟨rfl, hB2⟩
  by_cases h2 : m < n
  · go_enter Try.func3, Try.ntmps3
    go_wp2_with (go_at_call 8; refine (wakes_any _).mono ?_; rintro e w2 ⟨rfl, hB2⟩)
    go_returns
    exact ⟨rfl, hB2⟩
  have h3 : 1073741824 < m := by omega
  clear hb
  go_enter Try.func3, Try.ntmps3
  go_wp2_with (go_at_call 8; refine (wakes_any _).mono ?_; rintro e w2 ⟨rfl, hB2⟩)
  go_returns
  exact ⟨rfl, hB2⟩

set_option maxRecDepth 100000 in
set_option maxHeartbeats 4000000 in
theorem order_good (n m : Nat) (w : World) (hn : n ≤ m) (hm : m ≤ 1073741824) :
    Calls Try.prog 3 #[.int .i64 (n : Int), .int .i64 (m : Int)] w fun e w' => e = .returned (.bool true) ∧ Below w.heap.size w w' := by
  have hn2 : n ≤ 1073741824 := by omega
  obtain ⟨k, hk⟩ : ∃ k, (short1 n).length = k := ⟨_, rfl⟩
  obtain ⟨q, hq⟩ : ∃ k, (short1 m).length = k := ⟨_, rfl⟩
  have hkq : k ≤ q := by rw [← hk, ← hq]; exact short_le n m hn
  have hk5 : k ≤ 5 := by rw [← hk, short_len]; have := topK_le n; omega
  have hq5 : q ≤ 5 := by rw [← hq, short_len]; have := topK_le m; omega
  have Hp := Lib.hid (show decide (short1 n = (short1 m).take k) = ((n : Int) == (m : Int)) by
    rw [Bool.eq_iff_iff, decide_eq_true_eq, beq_iff_eq, ← hk, short_prefix n m hn2 hm]; omega)
  have Hl := Lib.hid (show Op.bytesLess (bstr (long1 n)).toList (bstr (long1 m)).toList = decide ((n : Int) < (m : Int)) by
    rw [ByteArray.toList_eq, ByteArray.toList_eq]
    show Op.bytesLess (long1 n) (long1 m) = _
    rw [long_less n m hn2 hm, Bool.eq_iff_iff, decide_eq_true_eq, decide_eq_true_eq]; omega)
  have t1 : (0 : Int) ≤ (n : Int) := by omega
  have t2 : (n : Int) ≤ (m : Int) := by omega
  have t3 : (m : Int) ≤ 1073741824 := by omega
  have Hk := Lib.hid hk
  have Hq := Lib.hid hq
  clear hk hq
  have hln := Lib.hid (long1_len n)
  go_enter Try.func3, Try.ntmps3
  go_wp2_with fail
  have hl1 := Rd.new w (ivs [(n : Int)]) 3
  have hB := (Below.refl w.heap.size w).alloc (Nat.le_refl _) (.cells (ivs [(n : Int)]).toArray 3)
  refine (long_one n hn2 _ 1 _ hl1).mono ?_
  rintro e w1 ⟨Aa, ca, rfl, hca, hra, hB1⟩
  replace hB := bTr hB hB1
  go_wp2_with fail
  have hl2 := Rd.new w1 (ivs [(m : Int)]) 3
  replace hB := hB.alloc hB.size (.cells (ivs [(m : Int)]).toArray 3)
  refine (long_one m hm _ 1 _ hl2).mono ?_
  rintro e w2 ⟨Ab, cb, rfl, hcb, hrb, hB2⟩
  replace hB := bTr hB hB2
  replace hra := (hra.below ((Below.refl _ _).alloc (Nat.le_refl _) (.cells (ivs [(m : Int)]).toArray 3))).below hB2
  go_wp2_with fail
  have hl3 := Rd.new w2 (ivs [(n : Int)]) 3
  replace hB := hB.alloc hB.size (.cells (ivs [(n : Int)]).toArray 3)
  refine (short_one n k Hk.out hn2 _ 1 _ hl3).mono ?_
  rintro e w3 ⟨Ac, cc, rfl, hcc, hrc, hB3⟩
  replace hB := bTr hB hB3
  replace hra := (hra.below ((Below.refl _ _).alloc (Nat.le_refl _) (.cells (ivs [(n : Int)]).toArray 3))).below hB3
  replace hrb := (hrb.below ((Below.refl _ _).alloc (Nat.le_refl _) (.cells (ivs [(n : Int)]).toArray 3))).below hB3
  go_wp2_with fail
  have hl4 := Rd.new w3 (ivs [(m : Int)]) 3
  replace hB := hB.alloc hB.size (.cells (ivs [(m : Int)]).toArray 3)
  refine (short_one m q Hq.out hm _ 1 _ hl4).mono ?_
  rintro e w4 ⟨Ad, cd, rfl, hcd, hrd, hB4⟩
  replace hB := bTr hB hB4
  replace hra := (hra.below ((Below.refl _ _).alloc (Nat.le_refl _) (.cells (ivs [(m : Int)]).toArray 3))).below hB4
  replace hrb := (hrb.below ((Below.refl _ _).alloc (Nat.le_refl _) (.cells (ivs [(m : Int)]).toArray 3))).below hB4
  replace hrc := (hrc.below ((Below.refl _ _).alloc (Nat.le_refl _) (.cells (ivs [(m : Int)]).toArray 3))).below hB4
  clear hB1 hB2 hB3 hB4 hl1 hl2 hl3 hl4
  have e1 := run_str hra ca 23 5 Try.underlying23 Try.underlying5
  have e2 := run_str hrb cb 23 5 Try.underlying23 Try.underlying5
  rw [long1_len] at e1 e2
  have hl := Hl.out
  go_wp2_with fail
  have htk := hrd.take k
  rw [← bvs_take] at htk
  refine (same_n Ac Ad k k cc cd (short1 n) ((short1 m).take k) Hk.out (by rw [List.length_take, Hq.out]; omega) w4 hrc htk).mono ?_
  rintro e w5 ⟨rfl, hx⟩
  rw [Hp.out]
  subst hx
  by_cases hnm : n = m
  · subst hnm
    go_wp2_with (go_at_call 8; refine (wakes_any _).mono ?_; rintro e w6 ⟨rfl, hB6⟩)
    go_returns
    exact ⟨rfl, bTr hB hB6⟩
  · have hne : ((n : Int) == (m : Int)) = false := by simp only [beq_eq_false_iff_ne]; omega
    go_wp2_with (go_at_call 8; refine (wakes_any _).mono ?_; rintro e w6 ⟨rfl, hB6⟩)
    go_returns
    exact ⟨rfl, bTr hB hB6⟩
theorem order_all (n m : Int) (w : World) :
    Calls Try.prog 3 #[.int .i64 n, .int .i64 m] w fun e w' => e = .returned (.bool true) ∧ Below w.heap.size w w' := by
  by_cases h : n < 0 ∨ m < n ∨ 1073741824 < m
  · exact order_bad n m w h
  · obtain ⟨n', rfl⟩ := Int.eq_ofNat_of_zero_le (show 0 ≤ n by omega)
    obtain ⟨m', rfl⟩ := Int.eq_ofNat_of_zero_le (show 0 ≤ m by omega)
    exact order_good n' m' w (by omega) (by omega)
end Go.Proofs.Ytefpagijgiggmab
