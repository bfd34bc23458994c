/- The walks of numbers: put, Long, Short. -/
import Derived.Test.YtefpagijgiggmabNumWe
namespace Go.Proofs.Ytefpagijgiggmab
open Go Go.RowKit

theorem perL_succ (per : Nat → List UInt8) (l : List Int) (k : Nat) (x : Int) (h : l[k]? = some x) : (l.take (k + 1)).flatMap (fun n => per n.toNat) = (l.take k).flatMap (fun n => per n.toNat) ++ per x.toNat := by
  rw [List.take_add_one, h]; simp
theorem perL_le (per : Nat → List UInt8) (hp : ∀ n, (per n).length ≤ 5) (l : List Int) (k : Nat) : ((l.take k).flatMap (fun n => per n.toNat)).length ≤ 5 * k := by
  rw [List.length_flatMap]
  have : ∀ m : List Int, (m.map fun n => (per n.toNat).length).sum ≤ 5 * m.length := by
    intro m
    induction m with
    | nil => simp
    | cons a m ih => have := hp a.toNat; simp only [List.map_cons, List.sum_cons, List.length_cons]; omega
  have h2 := this (l.take k)
  have h3 := List.length_take_le k l
  omega
theorem isN_at {l : List Int} (h : isN l = true) {k : Nat} {x : Int} (hx : l[k]? = some x) : 0 ≤ x ∧ x ≤ 1073741824 := by
  have h1 : l.any badN = false := by simpa [isN] using h
  have := List.any_eq_false.1 h1 x (List.mem_of_getElem? hx)
  exact badN_false.1 (by simpa using this)
theorem long1_len (n : Nat) : (long1 n).length = 5 := by simp [long1, toB, digs_length]
theorem short1_len (n : Nat) : (short1 n).length = topK n + 1 := by rw [short1, marked_eq]; simp [toB, digs_length]

theorem long1_le (n : Nat) : (long1 n).length ≤ 5 := by rw [long1_len]; omega
theorem oneLong_any (x : Int) (n : Nat) (hx : x = n) (hn : n ≤ 1073741824) (B : Nat) (v : Value) (l : List UInt8) (hl : l.length ≤ 1099511627000) (w : World) (hBw : B ≤ w.heap.size) (hown : w.ownsRow B 5 1 v l.length (bvs l)) :
    Calls Try.prog 24 #[v, .int .i64 x] w fun e w' => ∃ v', e = .returned v' ∧ w'.ownsRow B 5 1 v' (l ++ long1 n).length (bvs (l ++ long1 n)) ∧ Below B w w' := by
  subst hx
  have := longOne_any n hn B v l hl w hBw hown
  rw [List.length_append, long1_len]
  exact this

set_option maxHeartbeats 1000000 in
theorem putLong_any (A : Option Addr) (n c : Nat) (l : List Int) (hn : n = l.length) (hl : l.length ≤ 1000000) (w : World) (hA : Rd w A (ivs l)) :
    Calls Try.prog 23 #[.slice A n c, .func (.func 24) #[] #[]] w fun e w' => ∃ v, e = .returned (.tuple #[v, .int .i64 (errN l)]) ∧
      w'.ownsRow w.heap.size 5 1 v (longR l).length (bvs (longR l)) ∧ Below w.heap.size w w' := by
  subst hn
  by_cases hN : isN l = true
  · rw [show longR l = longL l from if_pos hN, show errN l = 0 from if_pos hN]
    have HN := Lib.hid hN
    clear hN
    go_enter Try.func23, Try.ntmps23
    go_wp2_with (go_at_call 16; refine (is_any A _ c l rfl (by omega) _ hA).mono ?_; rintro e w1 ⟨rfl, rfl⟩; rw [HN.out])
    go_loopw [4, 13] (fun t i wr => ∃ k : Nat, k ≤ l.length ∧ i = .int .i64 k ∧ wr.ownsRow w1.heap.size 5 1 t ((l.take k).flatMap fun n => long1 n.toNat).length (bvs ((l.take k).flatMap fun n => long1 n.toNat)) ∧ Below w1.heap.size w1 wr) (fun _ i _ => l.length - (intOf i).toNat)
    case atStart => exact ⟨0, by omega, rfl, World.ownsRow_nil _ _ _ _, Below.refl _ _⟩
    case round =>
      obtain ⟨k, hk, rfl, hown, hB⟩ := hrel
      have hle := perL_le long1 long1_le l k
      by_cases hk4 : k < l.length
      · obtain ⟨b, o, x, rfl, hb, hc, hx⟩ := (hA.below hB).int hk4
        have hxn := isN_at HN.out hx
        have Hs := Lib.hid (perL_succ long1 l k x hx)
        have hBz := hB.size
        clear hx
        obtain ⟨rw, hrw⟩ : ∃ r, r = (l.take k).flatMap fun n => long1 n.toNat := ⟨_, rfl⟩
        rw [← hrw] at hown hle Hs
        clear hrw
        go_wp2_with (go_at_call 24; refine (oneLong_any x x.toNat (by omega) (by omega) w1.heap.size _ rw (by omega) _ (by simpa using hBz) hown).mono ?_; rintro e w2 ⟨v2, rfl, hown2, hB2⟩)
        go_roundw
        case rel => exact ⟨k + 1, by omega, by go_num, by rw [Hs.out]; exact hown2, hB.trans hB2⟩
        case measure => simp [intOf]; omega
      · obtain rfl : k = l.length := by omega
        rw [List.take_length] at hown
        go_wp2
        go_returns
        exact ⟨_, rfl, hown, hB⟩
  · rw [show longR l = [] from if_neg hN, show errN l = 2 from if_neg hN]
    have HN := Lib.hid (show isN l = false by simpa using hN)
    clear hN
    go_enter Try.func23, Try.ntmps23
    go_wp2_with (go_at_call 16; refine (is_any A _ c l rfl (by omega) _ hA).mono ?_; rintro e w1 ⟨rfl, rfl⟩; rw [HN.out])
    go_returns
    exact ⟨_, rfl, World.ownsRow_nil _ _ _ _, Below.refl _ _⟩

theorem short1_le (n : Nat) : (short1 n).length ≤ 5 := by rw [short1_len]; have := topK_le n; omega
theorem oneShort_any (x : Int) (n : Nat) (hx : x = n) (hn : n ≤ 1073741824) (B : Nat) (v : Value) (l : List UInt8) (hl : l.length ≤ 1099511627000) (w : World) (hBw : B ≤ w.heap.size) (hown : w.ownsRow B 5 1 v l.length (bvs l)) :
    Calls Try.prog 26 #[v, .int .i64 x] w fun e w' => ∃ v', e = .returned v' ∧ w'.ownsRow B 5 1 v' (l ++ short1 n).length (bvs (l ++ short1 n)) ∧ Below B w w' := by
  subst hx
  have := shortOne_any n hn B v l hl w hBw hown
  rw [List.length_append, short1_len]
  exact this

set_option maxHeartbeats 1000000 in
theorem putShort_any (A : Option Addr) (n c : Nat) (l : List Int) (hn : n = l.length) (hl : l.length ≤ 1000000) (w : World) (hA : Rd w A (ivs l)) :
    Calls Try.prog 23 #[.slice A n c, .func (.func 26) #[] #[]] w fun e w' => ∃ v, e = .returned (.tuple #[v, .int .i64 (errN l)]) ∧
      w'.ownsRow w.heap.size 5 1 v (shortR l).length (bvs (shortR l)) ∧ Below w.heap.size w w' := by
  subst hn
  by_cases hN : isN l = true
  · rw [show shortR l = shortL l from if_pos hN, show errN l = 0 from if_pos hN]
    have HN := Lib.hid hN
    clear hN
    go_enter Try.func23, Try.ntmps23
    go_wp2_with (go_at_call 16; refine (is_any A _ c l rfl (by omega) _ hA).mono ?_; rintro e w1 ⟨rfl, rfl⟩; rw [HN.out])
    go_loopw [4, 13] (fun t i wr => ∃ k : Nat, k ≤ l.length ∧ i = .int .i64 k ∧ wr.ownsRow w1.heap.size 5 1 t ((l.take k).flatMap fun n => short1 n.toNat).length (bvs ((l.take k).flatMap fun n => short1 n.toNat)) ∧ Below w1.heap.size w1 wr) (fun _ i _ => l.length - (intOf i).toNat)
    case atStart => exact ⟨0, by omega, rfl, World.ownsRow_nil _ _ _ _, Below.refl _ _⟩
    case round =>
      obtain ⟨k, hk, rfl, hown, hB⟩ := hrel
      have hle := perL_le short1 short1_le l k
      by_cases hk4 : k < l.length
      · obtain ⟨b, o, x, rfl, hb, hc, hx⟩ := (hA.below hB).int hk4
        have hxn := isN_at HN.out hx
        have Hs := Lib.hid (perL_succ short1 l k x hx)
        have hBz := hB.size
        clear hx
        obtain ⟨rw, hrw⟩ : ∃ r, r = (l.take k).flatMap fun n => short1 n.toNat := ⟨_, rfl⟩
        rw [← hrw] at hown hle Hs
        clear hrw
        go_wp2_with (go_at_call 26; refine (oneShort_any x x.toNat (by omega) (by omega) w1.heap.size _ rw (by omega) _ (by simpa using hBz) hown).mono ?_; rintro e w2 ⟨v2, rfl, hown2, hB2⟩)
        go_roundw
        case rel => exact ⟨k + 1, by omega, by go_num, by rw [Hs.out]; exact hown2, hB.trans hB2⟩
        case measure => simp [intOf]; omega
      · obtain rfl : k = l.length := by omega
        rw [List.take_length] at hown
        go_wp2
        go_returns
        exact ⟨_, rfl, hown, hB⟩
  · rw [show shortR l = [] from if_neg hN, show errN l = 2 from if_neg hN]
    have HN := Lib.hid (show isN l = false by simpa using hN)
    clear hN
    go_enter Try.func23, Try.ntmps23
    go_wp2_with (go_at_call 16; refine (is_any A _ c l rfl (by omega) _ hA).mono ?_; rintro e w1 ⟨rfl, rfl⟩; rw [HN.out])
    go_returns
    exact ⟨_, rfl, World.ownsRow_nil _ _ _ _, Below.refl _ _⟩

end Go.Proofs.Ytefpagijgiggmab
