/- The law: NumTells. -/
import Derived.Test.YtefpagijgiggmabNumBack
import Derived.Test.YtefpagijgiggmabNumRb
import Derived.Test.YtefpagijgiggmabNumRc
namespace Go.Proofs.Ytefpagijgiggmab
open Go Go.RowKit Go.Shelf

theorem tksGo_len : ∀ (k : Nat) (acc : List Int) (r : List UInt8), (tksGo k acc r).1.length ≤ acc.length + k
  | 0, acc, r => by simp [tksGo]
  | k + 1, acc, r => by
    rw [tksGo]
    split
    · simp
    · have := tksGo_len k (acc ++ [(tkN r).1]) (tkN r).2.1
      simp only [List.length_append, List.length_cons, List.length_nil] at this
      omega
theorem tksN_len (b : List UInt8) (k : Nat) : (tksN b k).1.length ≤ k := by
  have := tksGo_len k [] b
  simpa [tksN] using this
theorem shortR2_at (A : Option Addr) (n c : Nat) (l : List Int) (hn : l.length = n) (hl : n ≤ 100000) (w : World) (hA : Rd w A (ivs l)) (s : List UInt8) (hs : shortR l = s) (k : Nat) (hk : s.length = k) (e0 : Int) (he : errN l = e0) :
    Calls Try.prog 14 #[.slice A n c] w fun e w' => ∃ A' c', e = .returned (.tuple #[.slice A' k c', .int .i64 e0]) ∧ (k ≤ c' ∧ c' ≤ maxLen) ∧ Rd w' A' (bvs s) ∧ Below w.heap.size w w' := by
  subst hs hk he
  refine (shortR2_any A n c l hn hl w hA).mono ?_
  rintro e w' ⟨v, rfl, ho, hb⟩
  obtain ⟨A', c', rfl, hc⟩ := own_slice ho
  exact ⟨A', c', rfl, hc, Rd.of_own ho, hb⟩
theorem longR2_at (A : Option Addr) (n c : Nat) (l : List Int) (hn : l.length = n) (hl : n ≤ 100000) (w : World) (hA : Rd w A (ivs l)) (s : List UInt8) (hs : longR l = s) (k : Nat) (hk : s.length = k) (e0 : Int) (he : errN l = e0) :
    Calls Try.prog 15 #[.slice A n c] w fun e w' => ∃ A' c', e = .returned (.tuple #[.slice A' k c', .int .i64 e0]) ∧ (k ≤ c' ∧ c' ≤ maxLen) ∧ Rd w' A' (bvs s) ∧ Below w.heap.size w w' := by
  subst hs hk he
  refine (longR2_any A n c l hn hl w hA).mono ?_
  rintro e w' ⟨v, rfl, ho, hb⟩
  obtain ⟨A', c', rfl, hc⟩ := own_slice ho
  exact ⟨A', c', rfl, hc, Rd.of_own ho, hb⟩
theorem take_at (A : Option Addr) (n c : Nat) (l : List UInt8) (hn : l.length = n) (hl : n ≤ 100000) (w : World) (hA : Rd w A (bvs l)) (hlc : n ≤ c) (hcm : c ≤ maxLen) (x : Int) (r : List UInt8) (e0 : Int) (h : tkN l = (x, r, e0)) (k : Nat) (hk : r.length = k) :
    Calls Try.prog 13 #[.slice A n c] w fun e w' => ∃ A' c', e = .returned (.tuple #[.int .i64 x, .slice A' k c', .int .i64 e0]) ∧ Rd w' A' (bvs r) ∧ Below w.heap.size w w' := by
  have H := take_n A n c l hn (by omega) w hA (by omega) hcm
  rw [h] at H
  subst hk
  refine H.mono ?_
  rintro e w' ⟨v, rfl, ho, hb⟩
  obtain ⟨A', c', rfl, hc⟩ := own_slice ho
  exact ⟨A', c', rfl, Rd.of_own ho, hb⟩
theorem takeR_at (A : Option Addr) (n c : Nat) (l : List UInt8) (hn : l.length = n) (hl : n ≤ 100000) (w : World) (hA : Rd w A (bvs l)) (hlc : n ≤ c) (hcm : c ≤ maxLen) (x : Int) (r : List UInt8) (e0 : Int) (h : tkN l = (x, r, e0)) (k : Nat) (hk : r.length = k) :
    Calls Try.prog 18 #[.slice A n c] w fun e w' => ∃ A' c', e = .returned (.tuple #[.int .i64 x, .slice A' k c', .int .i64 e0]) ∧ Rd w' A' (bvs r) ∧ Below w.heap.size w w' := by
  have H := takeR_any A n c l hn (by omega) w hA hlc hcm
  rw [h] at H
  subst hk
  refine H.mono ?_
  rintro e w' ⟨v, rfl, ho, hb⟩
  obtain ⟨A', c', rfl, hc⟩ := own_slice ho
  exact ⟨A', c', rfl, Rd.of_own ho, hb⟩
theorem takeLong_at (A : Option Addr) (n c : Nat) (l : List UInt8) (hn : l.length = n) (hl : n ≤ 100000) (w : World) (hA : Rd w A (bvs l)) (hlc : n ≤ c) (hcm : c ≤ maxLen) (x : Int) (r : List UInt8) (e0 : Int) (h : tlN l = (x, r, e0)) (k : Nat) (hk : r.length = k) :
    Calls Try.prog 19 #[.slice A n c] w fun e w' => ∃ A' c', e = .returned (.tuple #[.int .i64 x, .slice A' k c', .int .i64 e0]) ∧ Rd w' A' (bvs r) ∧ Below w.heap.size w w' := by
  have H := takeLong_any A c l (by omega) w hA (by omega) hcm
  rw [h, hn] at H
  subst hk
  refine H.mono ?_
  rintro e w' ⟨v, rfl, ho, hb⟩
  obtain ⟨A', c', rfl, hc⟩ := own_slice ho
  exact ⟨A', c', rfl, Rd.of_own ho, hb⟩
theorem takeLongR_at (A : Option Addr) (n c : Nat) (l : List UInt8) (hn : l.length = n) (hl : n ≤ 100000) (w : World) (hA : Rd w A (bvs l)) (hlc : n ≤ c) (hcm : c ≤ maxLen) (x : Int) (r : List UInt8) (e0 : Int) (h : tlN l = (x, r, e0)) (k : Nat) (hk : r.length = k) :
    Calls Try.prog 20 #[.slice A n c] w fun e w' => ∃ A' c', e = .returned (.tuple #[.int .i64 x, .slice A' k c', .int .i64 e0]) ∧ Rd w' A' (bvs r) ∧ Below w.heap.size w w' := by
  have H := takeLongR_any A n c l hn (by omega) w hA hlc hcm
  rw [h] at H
  subst hk
  refine H.mono ?_
  rintro e w' ⟨v, rfl, ho, hb⟩
  obtain ⟨A', c', rfl, hc⟩ := own_slice ho
  exact ⟨A', c', rfl, Rd.of_own ho, hb⟩
theorem takes_at (A : Option Addr) (n c : Nat) (b : List UInt8) (hn : b.length = n) (m : Int) (hm : m ≤ 100000) (hl : n ≤ 100000) (w : World) (hA : Rd w A (bvs b)) (hlc : n ≤ c) (hcm : c ≤ maxLen) (x : List Int) (r : List UInt8) (e0 : Int) (h : tksN b m.toNat = (x, r, e0)) (j k : Nat) (hj : x.length = j) (hk : r.length = k) :
    Calls Try.prog 12 #[.slice A n c, .int .i64 m] w fun e w' => ∃ A' c' B' d', e = .returned (.tuple #[.slice A' j c', .slice B' k d', .int .i64 e0]) ∧ Rd w' A' (ivs x) ∧ Rd w' B' (bvs r) ∧ Below w.heap.size w w' := by
  have H := takes_n A n c b hn m (by omega) (by omega) w hA (by omega) hcm
  rw [h] at H
  subst hj hk
  refine H.mono ?_
  rintro e w' ⟨v, u, rfl, ho, hu, hb⟩
  obtain ⟨A', c', rfl, hc⟩ := own_slice ho
  obtain ⟨B', d', rfl, hd⟩ := own_slice hu
  exact ⟨A', c', B', d', rfl, Rd.of_own ho, Rd.of_own hu, hb⟩
theorem takesR_at (A : Option Addr) (n c : Nat) (b : List UInt8) (hn : b.length = n) (m : Int) (hm : m ≤ 100000) (hl : n ≤ 100000) (w : World) (hA : Rd w A (bvs b)) (hlc : n ≤ c) (hcm : c ≤ maxLen) (x : List Int) (r : List UInt8) (e0 : Int) (h : tksN b m.toNat = (x, r, e0)) (j k : Nat) (hj : x.length = j) (hk : r.length = k) :
    Calls Try.prog 21 #[.slice A n c, .int .i64 m] w fun e w' => ∃ A' c' B' d', e = .returned (.tuple #[.slice A' j c', .slice B' k d', .int .i64 e0]) ∧ Rd w' A' (ivs x) ∧ Rd w' B' (bvs r) ∧ Below w.heap.size w w' := by
  have H := takesR_any A c b m (by omega) (by omega) w hA (by omega) hcm
  rw [h, hn] at H
  subst hj hk
  refine H.mono ?_
  rintro e w' ⟨v, u, rfl, ho, hu, hb⟩
  obtain ⟨A', c', rfl, hc⟩ := own_slice ho
  obtain ⟨B', d', rfl, hd⟩ := own_slice hu
  exact ⟨A', c', B', d', rfl, Rd.of_own ho, Rd.of_own hu, hb⟩

set_option maxRecDepth 100000 in
set_option maxHeartbeats 2000000 in
theorem tells_bad (A B : Option Addr) (n c q d : Nat) (m : Int) (w : World) (h1 : 60 < n ∨ 300 < q ∨ 400 < m) :
    Calls Try.prog 5 #[.slice A n c, .slice B q d, .int .i64 m] w fun e w' => e = .returned (.bool true) ∧ Below w.heap.size w w' := by
  by_cases h : 60 < n
  · go_enter Try.func5, Try.ntmps5
    go_wp2_with (go_at_call 8; refine (wakes_any _).mono ?_; rintro e w2 ⟨rfl, hB2⟩)
    go_returns
    exact ⟨rfl, hB2⟩
  have h2 : decide ((60 : Int) < (n : Int)) = false := by simp; omega
  by_cases h4 : 300 < q
  · clear h1
    go_enter Try.func5, Try.ntmps5
    go_wp2_with (go_at_call 8; refine (wakes_any _).mono ?_; rintro e w2 ⟨rfl, hB2⟩)
    go_returns
    exact ⟨rfl, hB2⟩
  have h3 : decide ((300 : Int) < (q : Int)) = false := by simp; omega
  have h5 : decide ((400 : Int) < m) = true := by simp; omega
  clear h1
  go_enter Try.func5, Try.ntmps5
  go_wp2_with (go_at_call 8; refine (wakes_any _).mono ?_; rintro e w2 ⟨rfl, hB2⟩)
  go_returns
  exact ⟨rfl, hB2⟩

set_option maxRecDepth 100000 in
set_option maxHeartbeats 8000000 in
theorem tells_good (A B : Option Addr) (n c q d : Nat) (l : List Int) (b : List UInt8) (m : Int) (hn : l.length = n) (hq : b.length = q) (w : World) (hA : Rd w A (ivs l)) (hBr : Rd w B (bvs b)) (hqd : q ≤ d) (hdm : d ≤ maxLen) (h1 : n ≤ 60) (h2 : q ≤ 300) (h3 : m ≤ 400) :
    Calls Try.prog 5 #[.slice A n c, .slice B q d, .int .i64 m] w fun e w' => e = .returned (.bool true) ∧ Below w.heap.size w w' := by
  have d1 : decide ((60 : Int) < (n : Int)) = false := by simp; omega
  have d2 : decide ((300 : Int) < (q : Int)) = false := by simp; omega
  have d3 : decide ((400 : Int) < m) = false := by simp; omega
  have Hn := Lib.hid hn
  have Hn' := Lib.hid hn.symm
  have Hq := Lib.hid hq
  have hll : l.length ≤ 1000000 := by omega
  clear hn hq
  obtain ⟨s1, hs1⟩ : ∃ s, shortR l = s := ⟨_, rfl⟩
  obtain ⟨z1, hz1⟩ : ∃ s, s1.length = s := ⟨_, rfl⟩
  obtain ⟨s2, hs2⟩ : ∃ s, longR l = s := ⟨_, rfl⟩
  obtain ⟨z2, hz2⟩ : ∃ s, s2.length = s := ⟨_, rfl⟩
  obtain ⟨e0, he0⟩ : ∃ s, errN l = s := ⟨_, rfl⟩
  obtain ⟨⟨tx, tr, te⟩, ht⟩ : ∃ s, tkN b = s := ⟨_, rfl⟩
  obtain ⟨tz, htz⟩ : ∃ s, tr.length = s := ⟨_, rfl⟩
  obtain ⟨⟨ux, ur, ue⟩, hu⟩ : ∃ s, tlN b = s := ⟨_, rfl⟩
  obtain ⟨uz, huz⟩ : ∃ s, ur.length = s := ⟨_, rfl⟩
  have hvl := tksN_len b m.toNat
  obtain ⟨⟨vl, vr, ve⟩, hv⟩ : ∃ s, tksN b m.toNat = s := ⟨_, rfl⟩
  rw [hv] at hvl
  obtain ⟨vy, hvy⟩ : ∃ s, vl.length = s := ⟨_, rfl⟩
  obtain ⟨vz, hvz⟩ : ∃ s, vr.length = s := ⟨_, rfl⟩
  have hvy2 : vy ≤ 400 := by dsimp only at hvl; omega
  have Hs1 := Lib.hid hs1
  have Hz1 := Lib.hid hz1
  have Hs2 := Lib.hid hs2
  have Hz2 := Lib.hid hz2
  have He0 := Lib.hid he0
  have Ht := Lib.hid ht
  have Htz := Lib.hid htz
  have Hu := Lib.hid hu
  have Huz := Lib.hid huz
  have Hv := Lib.hid hv
  have Hvy := Lib.hid hvy
  have Hvz := Lib.hid hvz
  clear hs1 hz1 hs2 hz2 he0 ht htz hu huz hv hvy hvz hvl
  obtain ⟨bI, hbI⟩ : ∃ s, isN l = s := ⟨_, rfl⟩
  have HbI := Lib.hid hbI
  clear hbI
  go_enter Try.func5, Try.ntmps5
  go_wp2_with (first
    | (go_at_call 10; refine (shortR_at A n c l Hn.out hll _ hA s1 Hs1.out z1 Hz1.out e0 He0.out).mono ?_; rintro e w1 ⟨A1, c1, rfl, _, hr1, hB1⟩; replace hA := hA.below hB1; replace hBr := hBr.below hB1)
    | (go_at_call 14; refine (shortR2_at A n c l Hn.out (by omega) _ hA s1 Hs1.out z1 Hz1.out e0 He0.out).mono ?_; rintro e w2 ⟨A2, c2, rfl, _, hr2, hB2⟩; replace hA := hA.below hB2; replace hBr := hBr.below hB2; replace hr1 := hr1.below hB2; replace hB1 := bTr hB1 hB2; clear hB2)
    | (go_at_call 9; refine (longR_at A n c l Hn.out hll _ hA s2 Hs2.out z2 Hz2.out e0 He0.out).mono ?_; rintro e w3 ⟨A3, c3, rfl, _, hr3, hB3⟩; replace hA := hA.below hB3; replace hBr := hBr.below hB3; replace hr1 := hr1.below hB3; replace hr2 := hr2.below hB3; replace hB1 := bTr hB1 hB3; clear hB3)
    | (go_at_call 15; refine (longR2_at A n c l Hn.out (by omega) _ hA s2 Hs2.out z2 Hz2.out e0 He0.out).mono ?_; rintro e w4 ⟨A4, c4, rfl, _, hr4, hB4⟩; replace hA := hA.below hB4; replace hBr := hBr.below hB4; replace hr1 := hr1.below hB4; replace hr2 := hr2.below hB4; replace hr3 := hr3.below hB4; replace hB1 := bTr hB1 hB4; clear hB4)
    | (go_at_call 11; refine (same_n A1 A2 z1 z1 c1 c2 s1 s1 Hz1.out Hz1.out _ hr1 hr2).mono ?_; rintro e ww ⟨rfl, rfl⟩; simp only [decide_true])
    | (go_at_call 11; refine (same_n A3 A4 z2 z2 c3 c4 s2 s2 Hz2.out Hz2.out _ hr3 hr4).mono ?_; rintro e ww ⟨rfl, rfl⟩; simp only [decide_true])
    | (go_at_call 16; refine (is_any A n c l Hn'.out (by omega) _ hA).mono ?_; rintro e ww ⟨rfl, rfl⟩; rw [HbI.out])
    | (go_at_call 17; refine (isR_any A n c l Hn'.out (by omega) _ hA).mono ?_; rintro e ww ⟨rfl, rfl⟩; rw [HbI.out])
    | (go_at_call 13; refine (take_at B q d b Hq.out (by omega) _ hBr hqd hdm tx tr te Ht.out tz Htz.out).mono ?_; rintro e w5 ⟨A5, c5, rfl, hr5, hB5⟩; clear hr1 hr2 hr3 hr4 hA; replace hBr := hBr.below hB5; replace hB1 := bTr hB1 hB5; clear hB5)
    | (go_at_call 18; refine (takeR_at B q d b Hq.out (by omega) _ hBr hqd hdm tx tr te Ht.out tz Htz.out).mono ?_; rintro e w6 ⟨A6, c6, rfl, hr6, hB6⟩; replace hr5 := hr5.below hB6; replace hBr := hBr.below hB6; replace hB1 := bTr hB1 hB6; clear hB6)
    | (go_at_call 11; refine (same_n A5 A6 tz tz c5 c6 tr tr Htz.out Htz.out _ hr5 hr6).mono ?_; rintro e ww ⟨rfl, rfl⟩; simp only [decide_true])
    | (go_at_call 19; refine (takeLong_at B q d b Hq.out (by omega) _ hBr hqd hdm ux ur ue Hu.out uz Huz.out).mono ?_; rintro e w7 ⟨A7, c7, rfl, hr7, hB7⟩; clear hr5 hr6; replace hBr := hBr.below hB7; replace hB1 := bTr hB1 hB7; clear hB7)
    | (go_at_call 20; refine (takeLongR_at B q d b Hq.out (by omega) _ hBr hqd hdm ux ur ue Hu.out uz Huz.out).mono ?_; rintro e w8 ⟨A8, c8, rfl, hr8, hB8⟩; replace hr7 := hr7.below hB8; replace hBr := hBr.below hB8; replace hB1 := bTr hB1 hB8; clear hB8)
    | (go_at_call 12; refine (takes_at B q d b Hq.out m (by omega) (by omega) _ hBr hqd hdm vl vr ve Hv.out vy vz Hvy.out Hvz.out).mono ?_; rintro e w9 ⟨A9, c9, B9, d9, rfl, hr9, hs9, hB9⟩; replace hr7 := hr7.below hB9; replace hr8 := hr8.below hB9; replace hBr := hBr.below hB9; replace hB1 := bTr hB1 hB9; clear hB9)
    | (go_at_call 21; refine (takesR_at B q d b Hq.out m (by omega) (by omega) _ hBr hqd hdm vl vr ve Hv.out vy vz Hvy.out Hvz.out).mono ?_; rintro e w10 ⟨A10, c10, B10, d10, rfl, hr10, hs10, hB10⟩; replace hr7 := hr7.below hB10; replace hr8 := hr8.below hB10; replace hr9 := hr9.below hB10; replace hs9 := hs9.below hB10; replace hB1 := bTr hB1 hB10; clear hB10 hBr)
    | (go_at_call 11; refine (same_n A7 A8 uz uz c7 c8 ur ur Huz.out Huz.out _ hr7 hr8).mono ?_; rintro e ww ⟨rfl, rfl⟩; simp only [decide_true])
    | (go_at_call 22; refine (ints_any A9 A10 vy vy c9 c10 vl vl Hvy.out Hvy.out (by omega) _ hr9 hr10).mono ?_; rintro e w11 ⟨rfl, hB11⟩; simp only [decide_true]; replace hs9 := hs9.below hB11; replace hs10 := hs10.below hB11; replace hB1 := bTr hB1 hB11; clear hB11 hr9 hr10)
    | (go_at_call 11; refine (same_n B9 B10 vz vz d9 d10 vr vr Hvz.out Hvz.out _ hs9 hs10).mono ?_; rintro e ww ⟨rfl, rfl⟩; simp only [decide_true])
    | (go_at_call 8; refine (wakes_any _).mono ?_; rintro e w12 ⟨rfl, hB12⟩; replace hB1 := bTr hB1 hB12; clear hB12))
  go_returns
  exact ⟨rfl, hB1⟩
theorem tells_all (A B : Option Addr) (c d : Nat) (l : List Int) (b : List UInt8) (m : Int) (w : World) (hA : Rd w A (ivs l)) (hB : Rd w B (bvs b)) (hqd : b.length ≤ d) (hdm : d ≤ maxLen) :
    Calls Try.prog 5 #[.slice A l.length c, .slice B b.length d, .int .i64 m] w fun e w' => e = .returned (.bool true) ∧ Below w.heap.size w w' := by
  by_cases h : 60 < l.length ∨ 300 < b.length ∨ 400 < m
  · exact tells_bad A B _ c _ d m w h
  · exact tells_good A B _ c _ d l b m rfl rfl w hA hB hqd hdm (by omega) (by omega) (by omega)
end Go.Proofs.Ytefpagijgiggmab
