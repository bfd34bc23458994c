/- The walk of NumOnly. -/
import Derived.Test.YtefpagijgiggmabNumOrder
import Derived.Test.YtefpagijgiggmabNumOnlyPl
import Derived.Deep.DeepCutAuto
namespace Go.Proofs.Ytefpagijgiggmab
open Go Go.RowKit

theorem take_is (A : Option Addr) (n c : Nat) (l : List UInt8) (hn : l.length = n) (hl : l.length ≤ 1000000) (w : World) (hA : Rd w A (bvs l)) (hlc : l.length ≤ c) (hcm : c ≤ maxLen) (x : Int) (r : List UInt8) (e0 : Int) (h : tkN l = (x, r, e0)) :
    Calls Try.prog 13 #[.slice A n c] w fun e w' => ∃ A' c', e = .returned (.tuple #[.int .i64 x, .slice A' r.length c', .int .i64 e0]) ∧ (r.length ≤ c' ∧ c' ≤ maxLen) ∧ Rd w' A' (bvs r) ∧ Below w.heap.size w w' := by
  refine (take_n A n c l hn hl w hA hlc hcm).mono ?_
  rintro e w' ⟨v, rfl, ho, hb⟩
  rw [h] at ho ⊢
  obtain ⟨A', c', rfl, hc⟩ := own_slice ho
  exact ⟨A', c', rfl, hc, Rd.of_own ho, hb⟩
theorem takeLong_is (A : Option Addr) (n c : Nat) (l : List UInt8) (hn : l.length = n) (hl : l.length ≤ 1000000) (w : World) (hA : Rd w A (bvs l)) (hlc : l.length ≤ c) (hcm : c ≤ maxLen) (x : Int) (r : List UInt8) (e0 : Int) (h : tlN l = (x, r, e0)) :
    Calls Try.prog 19 #[.slice A n c] w fun e w' => ∃ A' c', e = .returned (.tuple #[.int .i64 x, .slice A' r.length c', .int .i64 e0]) ∧ (r.length ≤ c' ∧ c' ≤ maxLen) ∧ Rd w' A' (bvs r) ∧ Below w.heap.size w w' := by
  subst hn
  refine (takeLong_any A c l hl w hA hlc hcm).mono ?_
  rintro e w' ⟨v, rfl, ho, hb⟩
  rw [h] at ho ⊢
  obtain ⟨A', c', rfl, hc⟩ := own_slice ho
  exact ⟨A', c', rfl, hc, Rd.of_own ho, hb⟩

set_option maxHeartbeats 2000000 in
theorem only_bad (A : Option Addr) (n c : Nat) (w : World) (h1 : 300 < n) :
    Calls Try.prog 7 #[.slice A n c] w fun e w' => e = .returned (.bool true) ∧ Below w.heap.size w w' := by
  go_enter Try.func7, Try.ntmps7
  go_wp2_with (go_at_call 8; refine (wakes_any _).mono ?_; rintro e w2 ⟨rfl, hB2⟩)
  go_returns
  exact ⟨rfl, hB2⟩

set_option maxRecDepth 100000 in
set_option maxHeartbeats 8000000 in
theorem only_good (A : Option Addr) (n c : Nat) (b : List UInt8) (hn : b.length = n) (w : World) (hA : Rd w A (bvs b)) (hnc : n ≤ c) (hcm : c ≤ maxLen) (h1 : n ≤ 300) :
    Calls Try.prog 7 #[.slice A n c] w fun e w' => e = .returned (.bool true) ∧ Below w.heap.size w w' := by
  have d1 : decide ((300 : Int) < (n : Int)) = false := by simp; omega
  have Hn := Lib.hid hn
  have hbc : b.length ≤ c := by omega
  have hbl : b.length ≤ 1000000 := by omega
  have hb3 : b.length ≤ 300 := by omega
  clear hn
  go_enter Try.func7, Try.ntmps7
  go_wp2_with fail
  obtain ⟨tk, htk⟩ : ∃ x, tkN b = x := ⟨_, rfl⟩
  obtain ⟨x, r, e0⟩ := tk
  refine (take_is A n c b Hn.out hbl w hA hbc hcm x r e0 htk).mono ?_
  rintro e w1 ⟨A1, c1, rfl, hc1, hr1, hB1⟩
  have Htk := Lib.hid htk
  clear htk
  have hA1 := hA.below hB1
  by_cases h0 : e0 = 0
  · subst h0
    obtain ⟨X, rfl, hX, hb⟩ := tk_inv b x r Htk.out
    have Hb := Lib.hid hb
    have hrl : r.length ≤ 300 := by have := congrArg List.length hb; rw [List.length_append] at this; omega
    obtain ⟨K, hK⟩ : ∃ K, topK X = K := ⟨_, rfl⟩
    have hK4 := topK_le X
    have hf := tk_fewer X hX
    have hsl := short_len X
    rw [hK] at hK4 hf hsl
    have Hf := Lib.hid hf
    have Hsl := Lib.hid hsl
    clear hb hK hf hsl
    go_wp2_with fail
    have hl2 := Rd.new w1 (ivs [(X : Int)]) 3
    have hB := hB1.alloc hB1.size (.cells (ivs [(X : Int)]).toArray 3)
    refine (short_one X (K + 1) Hsl.out hX _ 1 _ hl2).mono ?_
    rintro e w2 ⟨A2, c2, rfl, hc2, hr2, hB2⟩
    replace hB := bTr hB hB2
    have hr1' := (hr1.below ((Below.refl _ _).alloc (Nat.le_refl _) (.cells (ivs [(X : Int)]).toArray 3))).below hB2
    have hA2 := hA.below hB
    clear hl2 hB2 hr1 hA1 hB1
    have k1 : ((K : Int) + 1 == 0) = false := by simp only [beq_eq_false_iff_ne]; omega
    have k2 : decide ((5 : Int) < (K : Int) + 1) = false := by simp; omega
    have hown0 := World.ownsRow_lit (base := w2.heap.size) (e := 5) (size := 1) w2 #[] 0 (Nat.le_refl _) (by simp [maxLen]) rfl
    have hr2' := hr2.below ((Below.refl w2.heap.size w2).alloc (Nat.le_refl _) (.cells #[] 5))
    have Hsl2 := Lib.hid (show (bvs (short1 X)).length = (K + 1) * 1 by rw [bvs_length, Hsl.out]; omega)
    have hlen : 0 + (K + 1) + r.length = n := by have := congrArg List.length Hb.out; rw [List.length_append, Hsl.out, Hn.out] at this; omega
    have Hlen := Lib.hid hlen
    clear hlen
    go_upto_region 13 with (first
      | (at_builtin; refine list_append_rdW (news := bvs (short1 X)) rfl (.tmp 46) (.tmp 47) rfl elemB rfl hown0 rfl Hsl2.out hr2' (bvs_one _) (by unfold maxLen; omega) (by omega) (by simp) ?_; intro v3 w3 hown3 hg3 _; have hb3 := bGrow ((Below.refl _ _).alloc (Nat.le_refl _) _) hg3 (by simp) hown0; clear hg3)
      | (at_builtin; refine list_append_rdW (news := bvs r) rfl (.tmp 48) (.tmp 49) rfl elemB rfl hown3 rfl (by rw [bvs_length]; omega) (hr1'.below hb3) (bvs_one _) (by unfold maxLen; omega) (by omega) hb3.size ?_; intro v4 w4 hown4 hg4 _; have hb4 := bGrow hb3 hg4 hb3.size hown3; clear hg4; rw [Hlen.out, List.nil_append, ← bvs_append, ← Hb.out] at hown4; obtain ⟨A4, c4, rfl, _⟩ := own_slice hown4)
      | (go_at_call 11; refine (same_n A4 A _ n c4 c b b Hn.out Hn.out w4 (Rd.of_own hown4) (hA2.below hb4)).mono ?_; rintro e w5 ⟨rfl, rfl⟩; simp only [decide_true])
      | (go_at_call 13; refine (take_is A2 K c2 ((short1 X).take K) (by rw [List.length_take, Hsl.out]; omega) (by rw [List.length_take]; omega) _ (by rw [bvs_take]; exact (hr2.below hb4).take K) (by rw [List.length_take]; omega) hc2.2 0 [] 10 Hf.out).mono ?_; rintro e w6 ⟨A6, c6, rfl, hc6, hr6, hB6⟩))
    have hBW := bTr hB (bTr hb4 hB6)
    clear hB6 hr6 hc6 hown4 hb4 hown3 hb3 hown0 hr2' hA2 hr1' hr2 hB k1 k2
    obtain ⟨tl, htl⟩ : ∃ x, tlN b = x := ⟨_, rfl⟩
    obtain ⟨y, r2, f0⟩ := tl
    have Htl := Lib.hid htl
    clear htl
    go_wp2_with fail
    refine (takeLong_is A n c b Hn.out hbl _ (hA.below hBW) hbc hcm y r2 f0 Htl.out).mono ?_
    rintro e x1 ⟨B1, d1', rfl, hd1, hs1, hC1⟩
    rcases tlN_err b with h | ⟨h, h5⟩ | ⟨h, h5⟩
    · rw [Htl.out] at h
      dsimp only at h
      subst h
      obtain ⟨Y, rfl, hY, hb⟩ := tl_inv b y r2 Htl.out
      have Hb2 := Lib.hid hb
      have hlen2 : 0 + 5 + r2.length = n := by have := congrArg List.length hb; rw [List.length_append, long1_len, Hn.out] at this; omega
      have Hlen2 := Lib.hid hlen2
      have hr2l : r2.length ≤ 300 := by omega
      clear hb hlen2
      go_wp2_with fail
      have hl2 := Rd.new x1 (ivs [(Y : Int)]) 3
      have hD := hC1.alloc hC1.size (.cells (ivs [(Y : Int)]).toArray 3)
      refine (long_one Y hY _ 1 _ hl2).mono ?_
      rintro e x2 ⟨B2, d2, rfl, hd2, hs2, hC2⟩
      replace hD := bTr hD hC2
      have hs1' := (hs1.below ((Below.refl _ _).alloc (Nat.le_refl _) (.cells (ivs [(Y : Int)]).toArray 3))).below hC2
      clear hl2 hC2 hs1
      have hown5 := World.ownsRow_lit (base := x2.heap.size) (e := 5) (size := 1) x2 #[] 0 (Nat.le_refl _) (by simp [maxLen]) rfl
      have hs2' := hs2.below ((Below.refl x2.heap.size x2).alloc (Nat.le_refl _) (.cells #[] 5))
      have hAx := (hA.below hBW).below hD
      have Hs5 := Lib.hid (show (bvs (long1 Y)).length = 5 * 1 by rw [bvs_length, long1_len])
      go_wp2_with (first
        | (at_builtin; refine list_append_rdW (news := bvs (long1 Y)) rfl (.tmp 122) (.tmp 123) rfl elemB rfl hown5 rfl Hs5.out hs2' (bvs_one _) (by unfold maxLen; omega) (by omega) (by simp) ?_; intro v6 x3 hown6 hg6 _; have hb6 := bGrow ((Below.refl _ _).alloc (Nat.le_refl _) _) hg6 (by simp) hown5; clear hg6)
        | (at_builtin; refine list_append_rdW (news := bvs r2) rfl (.tmp 124) (.tmp 125) rfl elemB rfl hown6 rfl (by rw [bvs_length]; omega) (hs1'.below hb6) (bvs_one _) (by unfold maxLen; omega) (by omega) hb6.size ?_; intro v7 x4 hown7 hg7 _; have hb7 := bGrow hb6 hg7 hb6.size hown6; clear hg7; rw [Hlen2.out, List.nil_append, ← bvs_append, ← Hb2.out] at hown7; obtain ⟨B7, d7, rfl, _⟩ := own_slice hown7)
        | (go_at_call 11; refine (same_n B7 A _ n d7 c b b Hn.out Hn.out x4 (Rd.of_own hown7) (hAx.below hb7)).mono ?_; rintro e x5 ⟨rfl, rfl⟩; simp only [decide_true])
        | (go_at_call 8; refine (wakes_any _).mono ?_; rintro e x6 ⟨rfl, hC6⟩))
      go_returns
      exact ⟨rfl, bTr (bTr hBW (bTr hD hb7)) hC6⟩
    · rw [Htl.out] at h
      injection h with e1 e2
      injection e2 with e2 e3
      subst e1 e2 e3
      have hl0 : ((([] : List UInt8).length : Nat) : Int) = 0 := rfl
      have g5 : decide ((n : Int) < 5) = true := by have := Hn.out; simp; omega
      go_wp2_with (go_at_call 8; refine (wakes_any _).mono ?_; rintro e x6 ⟨rfl, hC6⟩)
      go_returns
      exact ⟨rfl, bTr (bTr hBW hC1) hC6⟩
    · rw [Htl.out] at h
      injection h with e1 e2
      injection e2 with e2 e3
      subst e1 e2 e3
      have hl0 : ((([] : List UInt8).length : Nat) : Int) = 0 := rfl
      have g5 : decide ((n : Int) < 5) = false := by have := Hn.out; simp; omega
      go_wp2_with (go_at_call 8; refine (wakes_any _).mono ?_; rintro e x6 ⟨rfl, hC6⟩)
      go_returns
      exact ⟨rfl, bTr (bTr hBW hC1) hC6⟩
  · have hbad := tkN_bad b (by rw [Htk.out]; exact h0)
    rw [Htk.out] at hbad
    obtain ⟨rfl, rfl, he⟩ : x = 0 ∧ r = [] ∧ (e0 = 10 ∨ e0 = 11) := by
      rcases hbad with h | h <;> injection h with h1 h2 <;> injection h2 with h2 h3 <;> subst h1 h2 h3 <;> simp
    have hl0 : ((([] : List UInt8).length : Nat) : Int) = 0 := rfl
    rcases he with rfl | rfl
    all_goals
      go_upto_region 13 with fail
      have hBW := hB1
      clear hA1 hr1 hB1
      obtain ⟨tl, htl⟩ : ∃ x, tlN b = x := ⟨_, rfl⟩
      obtain ⟨y, r2, f0⟩ := tl
      have Htl := Lib.hid htl
      clear htl
      go_wp2_with fail
      refine (takeLong_is A n c b Hn.out hbl _ (hA.below hBW) hbc hcm y r2 f0 Htl.out).mono ?_
      rintro e x1 ⟨B1, d1', rfl, hd1, hs1, hC1⟩
      rcases tlN_err b with h | ⟨h, h5⟩ | ⟨h, h5⟩
      · rw [Htl.out] at h
        dsimp only at h
        subst h
        obtain ⟨Y, rfl, hY, hb⟩ := tl_inv b y r2 Htl.out
        have Hb2 := Lib.hid hb
        have hlen2 : 0 + 5 + r2.length = n := by have := congrArg List.length hb; rw [List.length_append, long1_len, Hn.out] at this; omega
        have Hlen2 := Lib.hid hlen2
        have hr2l : r2.length ≤ 300 := by omega
        clear hb hlen2
        go_wp2_with fail
        have hl2 := Rd.new x1 (ivs [(Y : Int)]) 3
        have hD := hC1.alloc hC1.size (.cells (ivs [(Y : Int)]).toArray 3)
        refine (long_one Y hY _ 1 _ hl2).mono ?_
        rintro e x2 ⟨B2, d2, rfl, hd2, hs2, hC2⟩
        replace hD := bTr hD hC2
        have hs1' := (hs1.below ((Below.refl _ _).alloc (Nat.le_refl _) (.cells (ivs [(Y : Int)]).toArray 3))).below hC2
        clear hl2 hC2 hs1
        have hown5 := World.ownsRow_lit (base := x2.heap.size) (e := 5) (size := 1) x2 #[] 0 (Nat.le_refl _) (by simp [maxLen]) rfl
        have hs2' := hs2.below ((Below.refl x2.heap.size x2).alloc (Nat.le_refl _) (.cells #[] 5))
        have hAx := (hA.below hBW).below hD
        have Hs5 := Lib.hid (show (bvs (long1 Y)).length = 5 * 1 by rw [bvs_length, long1_len])
        go_wp2_with (first
          | (at_builtin; refine list_append_rdW (news := bvs (long1 Y)) rfl (.tmp 122) (.tmp 123) rfl elemB rfl hown5 rfl Hs5.out hs2' (bvs_one _) (by unfold maxLen; omega) (by omega) (by simp) ?_; intro v6 x3 hown6 hg6 _; have hb6 := bGrow ((Below.refl _ _).alloc (Nat.le_refl _) _) hg6 (by simp) hown5; clear hg6)
          | (at_builtin; refine list_append_rdW (news := bvs r2) rfl (.tmp 124) (.tmp 125) rfl elemB rfl hown6 rfl (by rw [bvs_length]; omega) (hs1'.below hb6) (bvs_one _) (by unfold maxLen; omega) (by omega) hb6.size ?_; intro v7 x4 hown7 hg7 _; have hb7 := bGrow hb6 hg7 hb6.size hown6; clear hg7; rw [Hlen2.out, List.nil_append, ← bvs_append, ← Hb2.out] at hown7; obtain ⟨B7, d7, rfl, _⟩ := own_slice hown7)
          | (go_at_call 11; refine (same_n B7 A _ n d7 c b b Hn.out Hn.out x4 (Rd.of_own hown7) (hAx.below hb7)).mono ?_; rintro e x5 ⟨rfl, rfl⟩; simp only [decide_true])
          | (go_at_call 8; refine (wakes_any _).mono ?_; rintro e x6 ⟨rfl, hC6⟩))
        go_returns
        exact ⟨rfl, bTr (bTr hBW (bTr hD hb7)) hC6⟩
      · rw [Htl.out] at h
        injection h with e1 e2
        injection e2 with e2 e3
        subst e1 e2 e3
        have hl0 : ((([] : List UInt8).length : Nat) : Int) = 0 := rfl
        have g5 : decide ((n : Int) < 5) = true := by have := Hn.out; simp; omega
        go_wp2_with (go_at_call 8; refine (wakes_any _).mono ?_; rintro e x6 ⟨rfl, hC6⟩)
        go_returns
        exact ⟨rfl, bTr (bTr hBW hC1) hC6⟩
      · rw [Htl.out] at h
        injection h with e1 e2
        injection e2 with e2 e3
        subst e1 e2 e3
        have hl0 : ((([] : List UInt8).length : Nat) : Int) = 0 := rfl
        have g5 : decide ((n : Int) < 5) = false := by have := Hn.out; simp; omega
        go_wp2_with (go_at_call 8; refine (wakes_any _).mono ?_; rintro e x6 ⟨rfl, hC6⟩)
        go_returns
        exact ⟨rfl, bTr (bTr hBW hC1) hC6⟩
theorem only_all (A : Option Addr) (c : Nat) (b : List UInt8) (w : World) (hA : Rd w A (bvs b)) (hnc : b.length ≤ c) (hcm : c ≤ maxLen) :
    Calls Try.prog 7 #[.slice A b.length c] w fun e w' => e = .returned (.bool true) ∧ Below w.heap.size w w' := by
  by_cases h : 300 < b.length
  · exact only_bad A _ c w h
  · exact only_good A _ c b rfl w hA hnc hcm (by omega)
end Go.Proofs.Ytefpagijgiggmab
