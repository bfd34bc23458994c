/- The walk of NumBack. -/
import Derived.Test.YtefpagijgiggmabNumOnly
import Derived.Deep.DeepCutAuto
namespace Go.Proofs.Ytefpagijgiggmab
open Go Go.RowKit

theorem shortL_cons (x : Int) (l : List Int) : shortL (x :: l) = short1 x.toNat ++ shortL l := rfl
theorem longL_cons (x : Int) (l : List Int) : longL (x :: l) = long1 x.toNat ++ longL l := rfl
theorem isN_cons {x : Int} {l : List Int} (h : isN (x :: l) = true) : (0 ≤ x ∧ x ≤ 1073741824) ∧ isN l = true := by
  simp only [isN, List.any_cons, Bool.not_eq_true', Bool.or_eq_false_iff] at h ⊢
  exact ⟨badN_false.1 h.1, h.2⟩
theorem tks_back (r : List UInt8) : ∀ (l acc : List Int), isN l = true → tksGo l.length acc (shortL l ++ r) = (acc ++ l, r, 0)
  | [], acc, _ => by simp [tksGo, shortL]
  | x :: l, acc, h => by
    obtain ⟨hx, hl⟩ := isN_cons h
    have e := tk_short x.toNat (by omega) (shortL l ++ r)
    rw [shortL_cons, List.append_assoc]
    show tksGo (l.length + 1) acc _ = _
    rw [tksGo_more _ _ _ (by rw [e]), e]
    dsimp only
    rw [tks_back r l _ hl, show ((x.toNat : Nat) : Int) = x by omega]
    simp
theorem longL_len : ∀ l : List Int, (longL l).length = 5 * l.length
  | [] => rfl
  | x :: l => by rw [longL_cons, List.length_append, long1_len, longL_len l, List.length_cons]; omega
theorem shortL_len : ∀ l : List Int, (shortL l).length ≤ 5 * l.length
  | [] => by simp [shortL]
  | x :: l => by rw [shortL_cons, List.length_append, short_len, List.length_cons]; have := shortL_len l; have := topK_le x.toNat; omega
theorem long_drop (r : List UInt8) (l : List Int) (h : isN l = true) (k : Nat) (x : Int) (hx : l[k]? = some x) : tlN (longL (l.drop k) ++ r) = (x, longL (l.drop (k + 1)) ++ r, 0) := by
  have hk : k < l.length := (List.getElem?_eq_some_iff.1 hx).1
  have hb := isN_at h hx
  rw [List.drop_eq_getElem_cons hk]
  have e : l[k] = x := by rw [List.getElem?_eq_getElem hk] at hx; exact Option.some.inj hx
  rw [e, longL_cons, List.append_assoc, tl_long x.toNat (by omega), show ((x.toNat : Nat) : Int) = x by omega]

theorem shortR_at (A : Option Addr) (n c : Nat) (l : List Int) (hn : l.length = n) (hl : l.length ≤ 1000000) (w : World) (hA : Rd w A (ivs l)) (s : List UInt8) (hs : shortR l = s) (k : Nat) (hk : s.length = k) (e0 : Int) (he : errN l = e0) :
    Calls Try.prog 10 #[.slice A n c] w fun e w' => ∃ A' c', e = .returned (.tuple #[.slice A' k c', .int .i64 e0]) ∧ (k ≤ c' ∧ c' ≤ maxLen) ∧ Rd w' A' (bvs s) ∧ Below w.heap.size w w' := by
  subst hs hk he
  refine (short_any A n c l hn.symm hl w hA).mono ?_
  rintro e w' ⟨v, rfl, ho, hb⟩
  obtain ⟨A', c', rfl, hc⟩ := own_slice ho
  exact ⟨A', c', rfl, hc, Rd.of_own ho, hb⟩
theorem longR_at (A : Option Addr) (n c : Nat) (l : List Int) (hn : l.length = n) (hl : l.length ≤ 1000000) (w : World) (hA : Rd w A (ivs l)) (s : List UInt8) (hs : longR l = s) (k : Nat) (hk : s.length = k) (e0 : Int) (he : errN l = e0) :
    Calls Try.prog 9 #[.slice A n c] w fun e w' => ∃ A' c', e = .returned (.tuple #[.slice A' k c', .int .i64 e0]) ∧ (k ≤ c' ∧ c' ≤ maxLen) ∧ Rd w' A' (bvs s) ∧ Below w.heap.size w w' := by
  subst hs hk he
  refine (long_any A n c l hn.symm hl w hA).mono ?_
  rintro e w' ⟨v, rfl, ho, hb⟩
  obtain ⟨A', c', rfl, hc⟩ := own_slice ho
  exact ⟨A', c', rfl, hc, Rd.of_own ho, hb⟩

set_option maxRecDepth 100000 in
set_option maxHeartbeats 2000000 in
theorem back_bad (A B : Option Addr) (n c q d : Nat) (w : World) (h1 : 60 < n ∨ 100 < q) :
    Calls Try.prog 6 #[.slice A n c, .slice B q d] w fun e w' => e = .returned (.bool true) ∧ Below w.heap.size w w' := by
  by_cases h : 60 < n
  · go_enter Try.func6, Try.ntmps6
    go_wp2_with (go_at_call 8; refine (wakes_any _).mono ?_; rintro e w2 ⟨rfl, hB2⟩)
    go_returns
    exact ⟨rfl, hB2⟩
  have h3 : 100 < q := by omega
  clear h1
  go_enter Try.func6, Try.ntmps6
  go_wp2_with (go_at_call 8; refine (wakes_any _).mono ?_; rintro e w2 ⟨rfl, hB2⟩)
  go_returns
  exact ⟨rfl, hB2⟩

def fineN (l : List Int) : Bool := !(l.any badN)
theorem fineN_step (l : List Int) (k : Nat) (x : Int) (h : l[k]? = some x) : fineN (l.take (k + 1)) = (fineN (l.take k) && !badN x) := by
  unfold fineN
  rw [List.take_add_one, h]
  simp [List.any_append, Bool.not_or]

set_option maxRecDepth 100000 in
set_option maxHeartbeats 8000000 in
theorem back_good (A B : Option Addr) (n c q d : Nat) (l : List Int) (r : List UInt8) (hn : l.length = n) (hq : r.length = q) (w : World) (hA : Rd w A (ivs l)) (hBr : Rd w B (bvs r)) (hnc : n ≤ c) (hcm : c ≤ maxLen) (hqd : q ≤ d) (hdm : d ≤ maxLen) (h1 : n ≤ 60) (h2 : q ≤ 100) :
    Calls Try.prog 6 #[.slice A n c, .slice B q d] w fun e w' => e = .returned (.bool true) ∧ Below w.heap.size w w' := by
  have d1 : decide ((60 : Int) < (n : Int)) = false := by simp; omega
  have d2 : decide ((100 : Int) < (q : Int)) = false := by simp; omega
  have Hn := Lib.hid hn
  have Hq := Lib.hid hq
  have hll : l.length ≤ 1000000 := by omega
  have hrl : r.length ≤ 100 := by omega
  clear hn hq
  go_enter Try.func6, Try.ntmps6
  go_wp2
  go_loop [5, 6] (fun v5 i => ∃ k : Nat, k ≤ n ∧ i = .int .i64 k ∧ v5 = .bool (fineN (l.take k))) (fun _ i => n - (intOf i).toNat)
  case atStart => exact ⟨0, by omega, rfl, rfl⟩
  case round =>
    obtain ⟨k, hk, rfl, rfl⟩ := hrel
    by_cases hlt : k < n
    · obtain ⟨b, o, x, rfl, hb, hc, hx⟩ := hA.int (k := k) (by rw [Hn.out]; exact hlt)
      have Hs := Lib.hid (fineN_step l k x hx)
      clear hx
      generalize fineN (l.take k) = f at *
      by_cases hx0 : x < 0
      · have e1 : badN x = true := badN_true.2 (.inl hx0)
        have e2 : decide ((0 : Int) ≤ x) = false := by simp; omega
        rw [e1] at Hs
        clear e1
        cases f
        all_goals
          go_wp2
          go_round
          case rel => exact ⟨k + 1, by omega, by go_num, by rw [Hs.out]; rfl⟩
          case measure => simp [intOf]; omega
      · by_cases hx1 : 1073741824 < x
        · have e1 : badN x = true := badN_true.2 (.inr hx1)
          have e2 : decide ((0 : Int) ≤ x) = true := by simp; omega
          have e3 : decide (x ≤ 1073741824) = false := by simp; omega
          rw [e1] at Hs
          clear e1
          cases f
          all_goals
            go_wp2
            go_round
            case rel => exact ⟨k + 1, by omega, by go_num, by rw [Hs.out]; rfl⟩
            case measure => simp [intOf]; omega
        · have e1 : badN x = false := badN_false.2 (by omega)
          have e2 : decide ((0 : Int) ≤ x) = true := by simp; omega
          have e3 : decide (x ≤ 1073741824) = true := by simp; omega
          rw [e1] at Hs
          clear e1
          cases f
          all_goals
            go_wp2
            go_round
            case rel => exact ⟨k + 1, by omega, by go_num, by rw [Hs.out]; rfl⟩
            case measure => simp [intOf]; omega
    · obtain rfl : k = n := by omega
      have ef : fineN (l.take k) = isN l := by rw [List.take_of_length_le (by rw [Hn.out]; omega)]; rfl
      rw [ef]
      clear ef
      cases hN : isN l with
      | false =>
        have HN := Lib.hid hN
        have hs : shortR l = [] := if_neg (by rw [hN]; simp)
        have hg : longR l = [] := if_neg (by rw [hN]; simp)
        have he : errN l = 2 := if_neg (by rw [hN]; simp)
        have HS := Lib.hid hs
        have HG := Lib.hid hg
        have HE := Lib.hid he
        clear hs hg he hN
        go_wp2_with fail
        refine (shortR_at A k c l Hn.out hll w hA [] HS.out 0 rfl 2 HE.out).mono ?_
        rintro e w1 ⟨A1, c1, rfl, hc1, hr1, hB1⟩
        go_wp2_with fail
        refine (longR_at A k c l Hn.out hll w1 (hA.below hB1) [] HG.out 0 rfl 2 HE.out).mono ?_
        rintro e w2 ⟨A2, c2, rfl, hc2, hr2, hB2⟩
        replace hB2 := bTr hB1 hB2
        go_wp2_with (first
          | (go_at_call 16; refine (is_any A k c l Hn.out.symm (by omega) w2 (hA.below hB2)).mono ?_; rintro e w3 ⟨rfl, rfl⟩; rw [HN.out])
          | (go_at_call 8; refine (wakes_any _).mono ?_; rintro e w4 ⟨rfl, hB4⟩))
        go_returns
        exact ⟨rfl, bTr hB2 hB4⟩
      | true =>
        have HN := Lib.hid hN
        have HS := Lib.hid (show shortR l = shortL l from if_pos hN)
        have HG := Lib.hid (show longR l = longL l from if_pos hN)
        have HE := Lib.hid (show errN l = 0 from if_pos hN)
        have HT := Lib.hid (show tksN (shortL l ++ r) k = (l, r, 0) by have := tks_back r l [] hN; rw [Hn.out] at this; exact this)
        have HL := Lib.hid (show (longL l).length = 5 * k by rw [longL_len, Hn.out])
        have HD := Lib.hid (long_drop r l hN)
        obtain ⟨K, hK⟩ : ∃ K, (shortL l).length = K := ⟨_, rfl⟩
        have hK3 : K ≤ 300 := by have := shortL_len l; rw [Hn.out] at this; omega
        have HK := Lib.hid hK
        clear hK hN
        go_wp2_with fail
        refine (shortR_at A k c l Hn.out hll w hA (shortL l) HS.out K HK.out 0 HE.out).mono ?_
        rintro e w1 ⟨A1, c1, rfl, hc1, hr1, hB1⟩
        go_wp2_with fail
        refine (longR_at A k c l Hn.out hll w1 (hA.below hB1) (longL l) HG.out (5 * k) HL.out 0 HE.out).mono ?_
        rintro e w2 ⟨A2, c2, rfl, hc2, hr2, hB2⟩
        replace hr1 := hr1.below hB2
        replace hB2 := bTr hB1 hB2
        clear hB1
        have hA2 := hA.below hB2
        have hBr2 := hBr.below hB2
        have hown0 := World.ownsRow_lit (base := w2.heap.size) (e := 5) (size := 1) w2 #[] 0 (Nat.le_refl _) (by simp [maxLen]) rfl
        have hr1' := hr1.below ((Below.refl w2.heap.size w2).alloc (Nat.le_refl _) (.cells #[] 5))
        have Hl1 := Lib.hid (show (bvs (shortL l)).length = K * 1 by rw [bvs_length, HK.out]; omega)
        have Hl2 := Lib.hid (show (bvs r).length = q * 1 by rw [bvs_length, Hq.out]; omega)
        have Hl3 := Lib.hid (show (shortL l ++ r).length = K + q by rw [List.length_append, HK.out, Hq.out])
        go_upto_region 15 with (first
          | (at_builtin; refine list_append_rdW (news := bvs (shortL l)) rfl (.tmp 86) (.tmp 87) rfl elemB rfl hown0 rfl Hl1.out hr1' (bvs_one _) (by unfold maxLen; omega) (by omega) (by simp) ?_; intro v3 w3 hown3 hg3 _; have hb3 := bGrow ((Below.refl _ _).alloc (Nat.le_refl _) _) hg3 (by simp) hown0; clear hg3)
          | (at_builtin; refine list_append_rdW (news := bvs r) rfl (.tmp 88) (.tmp 89) rfl elemB rfl hown3 rfl Hl2.out (hBr2.below hb3) (bvs_one _) (by unfold maxLen; omega) (by omega) hb3.size ?_; intro v4 w4 hown4 hg4 _; have hb4 := bGrow hb3 hg4 hb3.size hown3; clear hg4; rw [List.nil_append, ← bvs_append, Nat.zero_add] at hown4; obtain ⟨A4, c4, rfl, h4c⟩ := own_slice hown4)
          | (go_at_call 12; refine (takes_n A4 _ c4 (shortL l ++ r) Hl3.out (k : Int) (by omega) (by rw [Hl3.out]; omega) w4 (Rd.of_own hown4) (by rw [Hl3.out]; exact h4c.1) h4c.2).mono ?_; rintro e w5 ⟨v5, u5, rfl, ho5, hp5, hB5⟩; rw [Int.toNat_natCast, HT.out] at ho5 hp5 ⊢; dsimp only at ho5 hp5 ⊢; rw [Hn.out] at ho5; rw [Hq.out] at hp5; obtain ⟨A5, c5, rfl, h5c⟩ := own_slice ho5; obtain ⟨A6, c6, rfl, h6c⟩ := own_slice hp5; have hb5 := bTr hb4 hB5)
          | (go_at_call 22; refine (ints_any A5 A k k c5 c l l Hn.out Hn.out (by omega) w5 (Rd.of_own ho5) (hA2.below hb5)).mono ?_; rintro e w6 ⟨rfl, hB6⟩; simp only [decide_true]; have hb6 := bTr hb5 hB6)
          | (go_at_call 11; refine (same_n A6 B q q c6 d r r Hq.out Hq.out w6 ((Rd.of_own hp5).below hB6) (hBr2.below hb6)).mono ?_; rintro e w7 ⟨rfl, rfl⟩; simp only [decide_true]))
        have hBW : Below w.heap.size w w7 := bTr hB2 hb6
        have hr2' := hr2.below hb6
        have hBr7 := hBr2.below hb6
        have hA7 := hA2.below hb6
        clear hr2 hBr2 hA2 hb6 hB6 hp5 ho5 hb5 hB5 hown4 hb4 hb3 hown3 hr1' hr1 hown0 hB2
        have hown0 := World.ownsRow_lit (base := w7.heap.size) (e := 5) (size := 1) w7 #[] 0 (Nat.le_refl _) (by simp [maxLen]) rfl
        have hr2'' := hr2'.below ((Below.refl w7.heap.size w7).alloc (Nat.le_refl _) (.cells #[] 5))
        have Hl4 := Lib.hid (show (bvs (longL l)).length = 5 * k * 1 by rw [bvs_length, HL.out]; omega)
        have Hl5 := Lib.hid (show (longL l ++ r).length = 5 * k + q by rw [List.length_append, HL.out, Hq.out])
        go_wp2_with (first
          | (at_builtin; refine list_append_rd (news := bvs (longL l)) rfl (.tmp 127) (.tmp 128) rfl elemB rfl hown0 rfl Hl4.out hr2'' (bvs_one _) (by unfold maxLen; omega) (by omega) (by simp) ?_; intro v8 w8 hown8 hg8 _; have hb8 := bGrow ((Below.refl _ _).alloc (Nat.le_refl _) _) hg8 (by simp) hown0; clear hg8)
          | (at_builtin; refine list_append_rd (news := bvs r) rfl (.tmp 129) (.tmp 130) rfl elemB rfl hown8 rfl Hl2.out (hBr7.below hb8) (bvs_one _) (by unfold maxLen; omega) (by omega) hb8.size ?_; intro v9 w9 hown9 hg9 _; have hb9 := bGrow hb8 hg9 hb8.size hown8; clear hg9; rw [List.nil_append, ← bvs_append, Nat.zero_add] at hown9; obtain ⟨A9, c9, rfl, h9c⟩ := own_slice hown9))
        have hr9 := Rd.of_own hown9
        have hBW9 := bTr hBW hb9
        replace hA7 := hA7.below hb9
        replace hBr7 := hBr7.below hb9
        clear hown9 hown8 hb8 hb9 hown0 hr2'' hr2' hBW
        go_loopw [14, 15] (fun v14 i wr => ∃ (j z : Nat) (s : List UInt8) (A0 : Option Addr) (c0 : Nat), j ≤ k ∧ i = .int .i64 j ∧ v14 = .slice A0 z c0 ∧ Hid (s.length = z) ∧ z ≤ 400 ∧ z ≤ c0 ∧ c0 ≤ maxLen ∧ Hid (s = longL (l.drop j) ++ r) ∧ Rd wr A0 (bvs s) ∧ Below w9.heap.size w9 wr) (fun _ i _ => k - (intOf i).toNat)
        case atStart => exact ⟨0, _, _, A9, c9, by omega, rfl, rfl, Hl5, by omega, h9c.1, h9c.2, Lib.hid rfl, hr9, Below.refl _ _⟩
        case round =>
          clear hr9
          obtain ⟨j, z, s, A0, c0, hj, rfl, rfl, Hz, hz4, hzc, hcm0, Hs, hrs, hB⟩ := hrel
          by_cases hlt2 : j < k
          · obtain ⟨b, o, x, rfl, hb, hc, hx⟩ := (hA7.below hB).int (k := j) (by rw [Hn.out]; exact hlt2)
            have ht := HD.out j x hx
            rw [← Hs.out] at ht
            have hl2 : (longL (l.drop (j + 1)) ++ r).length ≤ 400 := by rw [List.length_append, longL_len, List.length_drop, Hn.out]; omega
            obtain ⟨s2, hs2⟩ : ∃ s2, s2 = longL (l.drop (j + 1)) ++ r := ⟨_, rfl⟩
            rw [← hs2] at ht hl2
            have Hs2 := Lib.hid hs2
            have Ht := Lib.hid ht
            clear hx ht hs2
            go_wp2_with (go_at_call 19; refine (takeLong_is A0 z c0 s Hz.out (by rw [Hz.out]; omega) _ hrs (by rw [Hz.out]; exact hzc) hcm0 x _ 0 Ht.out).mono ?_; rintro e w10 ⟨A10, c10, rfl, h10c, hr10, hB10⟩; replace hc := ((bCells hB10).1 b (o + j) hb).trans hc; replace hb := Nat.lt_of_lt_of_le hb hB10.size)
            go_roundw
            case rel => exact ⟨j + 1, _, s2, A10, c10, by omega, by go_num, rfl, Lib.hid rfl, hl2, h10c.1, h10c.2, Lib.hid Hs2.out, hr10, bTr hB hB10⟩
            case measure => simp [intOf]; omega
          · obtain rfl : j = k := by omega
            have hs : s = r := by rw [Hs.out, List.drop_of_length_le (by rw [Hn.out]; omega)]; rfl
            subst hs
            obtain rfl : q = z := by rw [← Hq.out, Hz.out]
            go_wp2_with (first
              | (go_at_call 11; refine (same_n A0 B q q c0 d s s Hq.out Hq.out _ hrs (hBr7.below hB)).mono ?_; rintro e w11 ⟨rfl, rfl⟩; simp only [decide_true])
              | (go_at_call 8; refine (wakes_any _).mono ?_; rintro e w12 ⟨rfl, hB12⟩))
            go_returns
            exact ⟨rfl, bTr hBW9 (bTr hB hB12)⟩
theorem back_all (A B : Option Addr) (c d : Nat) (l : List Int) (r : List UInt8) (w : World) (hA : Rd w A (ivs l)) (hB : Rd w B (bvs r)) (hnc : l.length ≤ c) (hcm : c ≤ maxLen) (hqd : r.length ≤ d) (hdm : d ≤ maxLen) :
    Calls Try.prog 6 #[.slice A l.length c, .slice B r.length d] w fun e w' => e = .returned (.bool true) ∧ Below w.heap.size w w' := by
  by_cases h : 60 < l.length ∨ 100 < r.length
  · exact back_bad A B _ c _ d w h
  · exact back_good A B _ c _ d l r rfl rfl w hA hB hnc hcm hqd hdm (by omega) (by omega)
end Go.Proofs.Ytefpagijgiggmab
