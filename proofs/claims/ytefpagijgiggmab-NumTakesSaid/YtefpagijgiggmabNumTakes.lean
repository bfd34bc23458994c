/- The walk of NumTakes. -/
import Derived.Test.YtefpagijgiggmabNumWk
namespace Go.Proofs.Ytefpagijgiggmab
open Go Go.RowKit

theorem tksGo_ok : ∀ (q : Nat) (acc : List Int) (r : List UInt8), (tksGo q acc r).2.2 = 0 → ∃ m, (tksGo q acc r).1 = acc ++ m ∧ m.length = q
  | 0, acc, r, _ => ⟨[], by simp [tksGo], rfl⟩
  | q + 1, acc, r, h => by
    by_cases he : (tkN r).2.2 = 0
    · rw [tksGo_more q acc r he] at h ⊢
      obtain ⟨m, h1, h2⟩ := tksGo_ok q _ _ h
      exact ⟨(tkN r).1 :: m, by rw [h1]; simp, by simp [h2]⟩
    · rw [tksGo_bad q acc r he] at h
      exact (he h).elim
theorem tksGo_rest : ∀ (q : Nat) (acc : List Int) (r : List UInt8), (tksGo q acc r).2.1.length ≤ r.length ∧ (tksGo q acc r).1.length ≤ acc.length + q
  | 0, acc, r => by simp [tksGo]
  | q + 1, acc, r => by
    by_cases he : (tkN r).2.2 = 0
    · rw [tksGo_more q acc r he]
      have h := tksGo_rest q (acc ++ [(tkN r).1]) (tkN r).2.1
      have h2 := tkN_rest r
      rw [List.length_append] at h
      simp only [List.length_cons, List.length_nil] at h
      omega
    · rw [tksGo_bad q acc r he]; simp

set_option maxHeartbeats 2000000 in
theorem ntakes_bad (A : Option Addr) (n c : Nat) (m : Int) (w : World) (hb : 200 < n ∨ m < 0 ∨ 250 < m) :
    Calls Try.prog 4 #[.slice A n c, .int .i64 m] w fun e w' => e = .returned (.bool true) ∧ Below w.heap.size w w' := by
  by_cases h1 : 200 < n
  · go_enter Try.func4, Try.ntmps4
    go_wp2_with (go_at_call 8; refine (wakes_any _).mono ?_; rintro e w2 ⟨rfl, hB2⟩)
    go_returns
    exact ⟨rfl, hB2⟩
  by_cases h2 : m < 0
  · go_enter Try.func4, Try.ntmps4
    go_wp2_with (go_at_call 8; refine (wakes_any _).mono ?_; rintro e w2 ⟨rfl, hB2⟩)
    go_returns
    exact ⟨rfl, hB2⟩
  have h3 : 250 < m := by omega
  clear hb
  go_enter Try.func4, Try.ntmps4
  go_wp2_with (go_at_call 8; refine (wakes_any _).mono ?_; rintro e w2 ⟨rfl, hB2⟩)
  go_returns
  exact ⟨rfl, hB2⟩

set_option maxRecDepth 100000 in
set_option maxHeartbeats 4000000 in
theorem ntakes_good (A : Option Addr) (n c : Nat) (b : List UInt8) (hn : b.length = n) (m : Nat) (w : World) (hA : Rd w A (bvs b)) (hnc : n ≤ c) (hcm : c ≤ maxLen) (h1 : n ≤ 200) (h2 : m ≤ 250) :
    Calls Try.prog 4 #[.slice A n c, .int .i64 (m : Int)] w fun e w' => e = .returned (.bool true) ∧ Below w.heap.size w w' := by
  have Hn := Lib.hid hn
  have hbl : b.length ≤ 200 := by omega
  have hbc : b.length ≤ c := by omega
  clear hn
  have t1 : (0 : Int) ≤ (m : Int) := by omega
  have d1 : decide ((200 : Int) < (n : Int)) = false := by simp; omega
  have d2 : decide ((m : Int) < 0) = false := by simp
  have d3 : decide ((250 : Int) < (m : Int)) = false := by simp; omega
  go_enter Try.func4, Try.ntmps4
  go_wp2_with fail
  refine (takes_n A n c b Hn.out (m : Int) (by omega) (by omega) w hA hbc hcm).mono ?_
  rintro e w1 ⟨v5, v6, rfl, ho5, ho6, hB1⟩
  rw [Int.toNat_natCast] at ho5 ho6 ⊢
  have hres : tksN b m = tksGo m [] b := rfl
  have hbd := tksGo_rest m [] b
  rw [hres] at ho5 ho6 ⊢
  clear hres
  obtain ⟨res, hres⟩ : ∃ r, r = tksGo m [] b := ⟨_, rfl⟩
  rw [← hres] at ho5 ho6 hbd ⊢
  have Hres := Lib.hid hres
  clear hres
  obtain ⟨rl, rr, re⟩ := res
  dsimp only at *
  obtain ⟨A5, c5, rfl, h5c, h5m⟩ := own_slice ho5
  obtain ⟨A6, c6, rfl, h6c, h6m⟩ := own_slice ho6
  have hr5 := Rd.of_own ho5
  have hr6 := Rd.of_own ho6
  clear ho5 ho6
  have hown0 := World.ownsRow_lit (base := w1.heap.size) (e := 5) (size := 1) w1 #[] 0 (Nat.le_refl _) (by simp [maxLen]) rfl
  have hA1 := (hA.below hB1).below ((Below.refl w1.heap.size w1).alloc (Nat.le_refl _) (.cells #[] 5))
  go_wp2_with (at_builtin; refine list_append_rd (news := bvs b) rfl (.tmp 32) (.tmp 33) rfl elemB rfl hown0 rfl (by rw [bvs_length, Hn.out]; omega) hA1 (bvs_one b) (by unfold maxLen; omega) (by omega) (by simp) ?_; intro v8 w2 hown8 hg _)
  have hB2 : Below w.heap.size w w2 := bTr hB1 (bGrow ((Below.refl _ _).alloc (Nat.le_refl _) _) hg (by simp) hown0)
  have hB12 : Below w1.heap.size w1 w2 := bGrow ((Below.refl _ _).alloc (Nat.le_refl _) _) hg (by simp) hown0
  replace hr5 := hr5.below hB12
  replace hr6 := hr6.below hB12
  clear hown0 hg hA1 hB12 hB1
  rw [List.nil_append, Nat.zero_add] at hown8
  have hown8' := hown8
  obtain ⟨A8, c8, rfl, h8c, h8m⟩ := own_slice hown8
  have hr8 := Rd.of_own hown8
  clear hown8 hown8'
  go_loopw [8, 9] (fun v8 i wr => ∃ (k : Nat) (acc : List Int) (r : List UInt8) (z : Nat), k ≤ m ∧ i = .int .i64 k ∧ Hid (acc.length = k) ∧ Hid (r.length = z) ∧ z ≤ 200 ∧ Hid ((rl, rr, re) = tksGo (m - k) acc r) ∧
      (∃ A8 c8, v8 = .slice A8 z c8 ∧ z ≤ c8 ∧ c8 ≤ maxLen ∧ Rd wr A8 (bvs r)) ∧ Below w2.heap.size w2 wr) (fun _ i _ => m - (intOf i).toNat)
  case atStart => exact ⟨0, [], b, n, by omega, rfl, Lib.hid rfl, Hn, h1, Lib.hid Hres.out, ⟨A8, c8, rfl, h8c, h8m, hr8⟩, Below.refl _ _⟩
  case round =>
    obtain ⟨k, acc, r, z, hk, rfl, Hak, Hrz, hz, Hg, ⟨A8, c8, rfl, h8c, h8m, hr8⟩, hB⟩ := hrel
    have hBw := bTr hB2 hB
    replace hr5 := hr5.below hB
    replace hr6 := hr6.below hB
    by_cases hlt : k < m
    · obtain ⟨q, hq⟩ : ∃ q, m - k = q + 1 := ⟨m - k - 1, by omega⟩
      have hq2 : m - (k + 1) = q := by omega
      have hg := Hg.out
      rw [hq] at hg
      have hlk := tkN_rest r
      rw [Hrz.out] at hlk
      have Htk := Lib.hid (take_n A8 z c8 r Hrz.out (by rw [Hrz.out]; omega) wr hr8 (by rw [Hrz.out]; exact h8c) h8m)
      by_cases he : (tkN r).2.2 = 0
      · rw [tksGo_more q acc r he] at hg
        have He := Lib.hid he
        have Hg2 := Lib.hid hg
        have hok2 : re = 0 → ∃ x, rl[k]? = some (tkN r).1 ∧ x = k := fun h0 => by
          obtain ⟨m1, e1, e2⟩ := tksGo_ok q (acc ++ [(tkN r).1]) (tkN r).2.1 (by rw [← hg]; exact h0)
          rw [← hg] at e1
          dsimp only at e1
          refine ⟨k, ?_, rfl⟩
          rw [e1, List.append_assoc, List.getElem?_append_right (by rw [Hak.out]; omega), Hak.out]
          simp
        generalize tkN r = tk at *
        obtain ⟨x, r2, e2⟩ := tk
        dsimp only at *
        obtain rfl : e2 = 0 := He.out
        clear He hg he hr8 hq Hg
        by_cases hre : re = 0
        · obtain ⟨_, hx, _⟩ := hok2 hre
          subst hre
          have hkl : k < rl.length := (List.getElem?_eq_some_iff.1 hx).1
          obtain ⟨b5, o5, x5, rfl, hb5, hc5, hx5⟩ := hr5.int hkl
          obtain rfl : x5 = x := by rw [hx] at hx5; exact (Option.some.inj hx5).symm
          have hg5 : decide ((rl.length : Int) ≤ (k : Int)) = false := by simp; omega
          have Hx := Lib.hid hx
          clear hx hx5 hok2
          go_wp2_with (go_at_call 13; refine Htk.out.mono ?_; rintro e w3 ⟨v3, rfl, hown3, hB3⟩; obtain ⟨A3, c3, rfl, h3c, h3m⟩ := own_slice hown3; have cc := ((bCells hB3).1 b5 (o5 + k) hb5).trans hc5; have hb5' : b5 < w3.heap.size := Nat.lt_of_lt_of_le hb5 hB3.size)
          go_roundw
          case rel => exact ⟨k + 1, acc ++ [x5], r2, _, by omega, by go_num, Lib.hid (by rw [List.length_append, Hak.out]; rfl), Lib.hid rfl, by omega, Lib.hid (by rw [hq2]; exact Hg2.out), ⟨A3, c3, rfl, h3c, h3m, Rd.of_own hown3⟩, bTr hB hB3⟩
          case measure => simp [intOf]; omega
        · have hre0 : (re == 0) = false := by simpa using hre
          clear hok2
          go_wp2_with (go_at_call 13; refine Htk.out.mono ?_; rintro e w3 ⟨v3, rfl, hown3, hB3⟩; obtain ⟨A3, c3, rfl, h3c, h3m⟩ := own_slice hown3)
          go_roundw
          case rel => exact ⟨k + 1, acc ++ [x], r2, _, by omega, by go_num, Lib.hid (by rw [List.length_append, Hak.out]; rfl), Lib.hid rfl, by omega, Lib.hid (by rw [hq2]; exact Hg2.out), ⟨A3, c3, rfl, h3c, h3m, Rd.of_own hown3⟩, bTr hB hB3⟩
          case measure => simp [intOf]; omega
      · rw [tksGo_bad q acc r he] at hg
        generalize tkN r = tk at *
        obtain ⟨x, r2, e2⟩ := tk
        dsimp only at *
        injection hg with g1 g2
        injection g2 with g2 g3
        subst g1 g2 g3
        have hne : (re != 0) = true := by simpa using he
        have hlen0 : (([] : List Int).length : Int) = 0 := rfl
        clear he hr8 hq Hg
        go_wp2_with (first | (go_at_call 13; refine Htk.out.mono ?_; rintro e w3 ⟨v3, rfl, hown3, hB3⟩) | (go_at_call 8; refine (wakes_any _).mono ?_; rintro e w4 ⟨rfl, hB4⟩))
        go_returns
        exact ⟨rfl, bTr hBw (bTr hB3 hB4)⟩
    · obtain rfl : k = m := by omega
      have hg := Hg.out
      rw [Nat.sub_self] at hg
      injection hg with g1 g2
      injection g2 with g2 g3
      subst g1 g2 g3
      have hl := Hak.out
      clear hbd
      have hkk : rl.length = k := hl
      have Hkk := Lib.hid hkk
      clear hkk hl
      obtain rfl : rr.length = z := Hrz.out
      have hkl : ((rl.length : Int) == (k : Int)) = true := by rw [Hkk.out]; simp
      go_wp2_with (first | (go_at_call 11; refine (same_n A6 A8 _ _ c6 c8 rr rr rfl rfl _ hr6 hr8).mono ?_; rintro e w3 ⟨rfl, rfl⟩; simp only [decide_true]) | (go_at_call 8; refine (wakes_any _).mono ?_; rintro e w4 ⟨rfl, hB4⟩))
      go_returns
      exact ⟨rfl, bTr hBw hB4⟩
theorem ntakes_all (A : Option Addr) (c : Nat) (b : List UInt8) (m : Int) (w : World) (hA : Rd w A (bvs b)) (hnc : b.length ≤ c) (hcm : c ≤ maxLen) :
    Calls Try.prog 4 #[.slice A b.length c, .int .i64 m] w fun e w' => e = .returned (.bool true) ∧ Below w.heap.size w w' := by
  by_cases h : 200 < b.length ∨ m < 0 ∨ 250 < m
  · exact ntakes_bad A _ c m w h
  · obtain ⟨m', rfl⟩ := Int.eq_ofNat_of_zero_le (show 0 ≤ m by omega)
    exact ntakes_good A _ c b rfl m' w hA hnc hcm (by omega) (by omega)
end Go.Proofs.Ytefpagijgiggmab
