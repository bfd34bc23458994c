/- The walks of the reference's numbers: TakeLong, Takes. -/
import Derived.Test.YtefpagijgiggmabNumRa
import Derived.Test.YtefpagijgiggmabNumWg
import Derived.Test.YtefpagijgiggmabNumWj
namespace Go.Proofs.Ytefpagijgiggmab
open Go Go.RowKit Go.Shelf

set_option maxRecDepth 4000 in
set_option maxHeartbeats 2000000 in
theorem takeLongR_any (A : Option Addr) (n0 c : Nat) (l : List UInt8) (hn0 : l.length = n0) (hl : n0 ≤ 1000000) (w : World) (hA : Rd w A (bvs l)) (hlc : n0 ≤ c) (hcm : c ≤ maxLen) :
    Calls Try.prog 20 #[.slice A n0 c] w fun e w' => ∃ v, e = .returned (.tuple #[.int .i64 (tlN l).1, v, .int .i64 (tlN l).2.2]) ∧
      w'.ownsRow w.heap.size 5 1 v (tlN l).2.1.length (bvs (tlN l).2.1) ∧ Below w.heap.size w w' := by
  by_cases h5 : n0 < 5
  · have H := Lib.hid (tlN_short l (by omega))
    clear hn0
    go_enter Try.func20, Try.ntmps20
    go_wp2
    go_returns
    rw [H.out]
    exact ⟨_, rfl, World.ownsRow_nil _ _ _ _, Below.refl _ _⟩
  · have h5' : 5 ≤ n0 := by omega
    have H := Lib.hid (tlN_long l (by omega))
    have Hn0 := Lib.hid hn0
    have hcm2 := hcm
    unfold maxLen at hcm2
    clear h5 hn0
    go_enter Try.func20, Try.ntmps20
    go_wp2
    go_loop [5, 6] (fun t i => ∃ k : Nat, k ≤ 5 ∧ i = .int .i64 k ∧ t = .int .i64 (valN (l.take k) : Nat)) (fun _ i => 5 - (intOf i).toNat)
    case atStart => exact ⟨0, by omega, rfl, rfl⟩
    case round =>
      obtain ⟨k, hk, rfl, rfl⟩ := hrel
      have hlt := valN_lt (l.take k) k (List.length_take_le _ _)
      by_cases hk4 : k < 5
      · obtain ⟨b, o, ch, rfl, hb, hc, hch, hlk⟩ := hA.byte (k := k) (by rw [Hn0.out]; omega)
        have Hs := Lib.hid (show valN (l.take (k + 1)) = valN (l.take k) * 256 + ch.toNat from by rw [List.take_add_one, hlk]; exact valN_snoc _ _)
        have hx : valN (l.take k) < 4294967296 := Nat.lt_of_lt_of_le hlt (Nat.le_trans (Nat.pow_le_pow_right (by omega) (show k ≤ 4 by omega)) (by decide))
        have t1 : (0 : Int) ≤ (k : Int) := by omega
        have t2 : (k : Int) < (n0 : Int) := by omega
        clear hlt hlk
        generalize valN (l.take k) = x at *
        generalize ch.toNat = z at *
        go_wp2
        go_round
        case rel => exact ⟨k + 1, by omega, by go_num, by rw [Hs.out]; push_cast; rfl⟩
        case measure => simp [intOf]; omega
      · obtain rfl : k = 5 := by omega
        have hx : valN (l.take 5) < 1099511627776 := Nat.lt_of_lt_of_le hlt (by decide)
        clear hlt
        generalize valN (l.take 5) = x at *
        have hrx : Rd (w.alloc (.cells #[.int .i64 x] 3)) (some ⟨w.heap.size, 0, none⟩) (ivs [(x : Int)]) := Rd.new w _ _
        by_cases hx2 : x ≤ 1073741824
        · have HN := Lib.hid (show isN [(x : Int)] = true by simp [isN, badN]; omega)
          have HT2 := Lib.hid (H.out.trans (if_pos hx2))
          clear H
          obtain ⟨b, o, ch, rfl, hb, _, _, _⟩ := hA.byte (k := 0) (by rw [Hn0.out]; omega)
          have hB1 : Below w.heap.size w (w.alloc (.cells #[.int .i64 x] 3)) := (Below.refl _ _).alloc (Nat.le_refl _) _
          have hown5 := World.ownsRow_lit (base := w.heap.size) (e := 5) (size := 1) (w.alloc (.cells #[.int .i64 x] 3)) #[] 0 hB1.size (by simp [maxLen]) rfl
          rw [World.size_alloc] at hown5
          have hsh := ((hA.cutF (k := 5) (c := c) (by rw [bvs_length, Hn0.out]; exact hlc)).below hB1).below ((Below.refl _ _).alloc (Nat.le_refl _) (.cells #[] 5))
          rw [← bvs_drop] at hsh
          simp only [Option.map_some] at hsh
          have hsl := cutB b o n0 c 5 5 rfl (by omega) hlc hcm
          obtain ⟨X, hX⟩ : ∃ X, (if c = 5 then some (⟨b, o, none⟩ : Addr) else some ⟨b, o + 5, none⟩) = X := ⟨_, rfl⟩
          simp only [hX] at hsl hsh
          clear hX
          have Hl := Lib.hid (show (bvs (l.drop 5)).length = (n0 - 5) * 1 by rw [bvs_length, List.length_drop, Hn0.out]; omega)
          have Hl2 := Lib.hid (show (l.drop 5).length = n0 - 5 by rw [List.length_drop, Hn0.out])
          go_wp2_with (first | (go_at_call 17; refine (isR_n _ _ _ hrx).mono ?_; rintro e w1 ⟨rfl, rfl⟩; rw [HN.out]) | (at_builtin; refine list_append_rd (news := bvs (l.drop 5)) rfl (.tmp 27) (.tmp 29) rfl elemB rfl hown5 rfl Hl.out hsh (bvs_one _) (by unfold maxLen; omega) (by omega) (by simp <;> omega) ?_; intro v' w' hown' hg hloc))
          go_returns
          rw [HT2.out]
          refine ⟨_, by push_cast; rfl, ?_, bGrow (hB1.alloc hB1.size _) hg (by simp <;> omega) hown5⟩
          dsimp only
          rw [Hl2.out]
          simpa using hown'
        · have HN := Lib.hid (show isN [(x : Int)] = false by simp [isN, badN]; omega)
          have HT2 := Lib.hid (H.out.trans (if_neg hx2))
          clear H
          go_wp2_with (go_at_call 17; refine (isR_n _ _ _ hrx).mono ?_; rintro e w1 ⟨rfl, rfl⟩; rw [HN.out])
          go_returns
          rw [HT2.out]
          exact ⟨_, rfl, World.ownsRow_nil _ _ _ _, (Below.refl _ _).alloc (Nat.le_refl _) _⟩

set_option maxHeartbeats 2000000 in
theorem takesR_any (A : Option Addr) (c : Nat) (b : List UInt8) (m : Int) (hm : m ≤ 1000000) (hl : b.length ≤ 1000000) (w : World) (hA : Rd w A (bvs b)) (hlc : b.length ≤ c) (hcm : c ≤ maxLen) :
    Calls Try.prog 21 #[.slice A b.length c, .int .i64 m] w fun e w' => ∃ v u, e = .returned (.tuple #[v, u, .int .i64 (tksN b m.toNat).2.2]) ∧
      w'.ownsRow w.heap.size 3 1 v (tksN b m.toNat).1.length (ivs (tksN b m.toNat).1) ∧ w'.ownsRow w.heap.size 5 1 u (tksN b m.toNat).2.1.length (bvs (tksN b m.toNat).2.1) ∧ Below w.heap.size w w' := by
  obtain ⟨res, hres⟩ : ∃ r, r = tksN b m.toNat := ⟨_, rfl⟩
  rw [← hres]
  have H0 := Lib.hid hres
  clear hres
  go_enter Try.func21, Try.ntmps21
  have hown0 := World.ownsRow_lit (base := w.heap.size) (e := 5) (size := 1) w #[] 0 (Nat.le_refl _) (by simp [maxLen]) rfl
  have Hbl := Lib.hid (show (bvs b).length = b.length * 1 by rw [bvs_length]; omega)
  go_wp2_with (at_builtin; refine list_append_rd (news := bvs b) rfl (.tmp 13) (.tmp 14) rfl elemB rfl hown0 rfl Hbl.out (hA.below ((Below.refl _ _).alloc (Nat.le_refl _) (.cells #[] 5))) (bvs_one _) (by unfold maxLen; omega) (by omega) (by simp) ?_; intro v1 w1 hown1 hg1 _; have hB1 := bGrow ((Below.refl _ _).alloc (Nat.le_refl _) _) hg1 (by simp) hown0; clear hg1; rw [Nat.zero_add, List.nil_append] at hown1)
  obtain ⟨A1, c1, rfl, _⟩ := own_slice hown1
  go_loopw [7, 8, 9] (fun v5 v4 i wr => ∃ (k : Nat) (acc : List Int) (r : List UInt8), k ≤ m.toNat ∧ i = .int .i64 k ∧ Hid (acc.length = k) ∧ r.length ≤ 1000000 ∧ Hid (res = tksGo (m.toNat - k) acc r) ∧
      wr.ownsRow w.heap.size 3 1 v4 k (ivs acc) ∧ wr.ownsRow w.heap.size 5 1 v5 r.length (bvs r) ∧ Below w.heap.size w wr) (fun _ _ i _ => m.toNat - (intOf i).toNat)
  case atStart => exact ⟨0, [], b, by omega, rfl, Lib.hid rfl, hl, Lib.hid H0.out, World.ownsRow_nil _ _ _ _, hown1, hB1⟩
  case round =>
    obtain ⟨k, acc, r, hk, rfl, hak, hr, Hg, ho4, ho5, hB⟩ := hrel
    have hz := hB.size
    obtain ⟨A4, c4, rfl, _⟩ := own_slice ho4
    obtain ⟨A5, c5, rfl, h5c, h5m⟩ := own_slice ho5
    by_cases hlt : (k : Int) < m
    · obtain ⟨q, hq⟩ : ∃ q, m.toNat - k = q + 1 := ⟨m.toNat - k - 1, by omega⟩
      have hq2 : m.toNat - (k + 1) = q := by omega
      have hg := Hg.out
      rw [hq] at hg
      have hrd5 := Rd.of_own ho5
      have hlk := tkN_rest r
      by_cases he : (tkN r).2.2 = 0
      · have Hg2 := Lib.hid (hg.trans (tksGo_more q acc r he))
        have He := Lib.hid he
        have Htk := Lib.hid (takeR_any A5 _ c5 r rfl hr wr hrd5 h5c h5m)
        generalize tkN r = tk at *
        obtain ⟨x, r2, e2⟩ := tk
        dsimp only at *
        obtain rfl : e2 = 0 := He.out
        clear He hg he hrd5 hq ho5
        go_wp2_with (first | (go_at_call 18; refine Htk.out.mono ?_; rintro e w2 ⟨v2, rfl, hown2, hB2⟩; have hz2 := hB2.size; have ho4' := own_below ho4 hB2; have hlt4 := ho4.lt) | (at_builtin; refine list_append_rd (news := ivs [x]) rfl (.tmp 30) (.tmp 32) rfl elemI rfl (ho4'.alloc _) rfl rfl (Rd.new w2 [.int .i64 x] 3) (ivs_one _) (by unfold maxLen; omega) (by omega) (by simp; omega) ?_; intro v' w' hown' hg hloc))
        go_roundw
        case rel =>
          have hk3 : KeepB (fun b => (Value.slice A4 k c4).ownBlock ≠ some b) w2 w' := ((KeepB.refl _ w2).alloc _).grown hg (fun x hx _ hne => hne hx)
          have hb3 : Below w.heap.size w w' := bGrow ((bTr hB hB2).alloc (by omega) _) hg (by simp; omega) (ho4'.alloc _)
          have ho2 := own_keep hown2 hk3 (fun b hb he => by have h1 := (hown2.lt b hb).1; have h2 := (hlt4 b he).2; omega)
          refine ⟨k + 1, acc ++ [x], r2, by omega, by go_num, Lib.hid (by rw [List.length_append, hak.out]; rfl), by omega, Lib.hid (by rw [hq2]; exact Hg2.out), ?_, own_base ho2 hz, hb3⟩
          have : ivs (acc ++ [x]) = ivs acc ++ ivs [x] := by simp [ivs]
          rw [this]
          exact hown'
        case measure => simp [intOf]; omega
      · have Hg2 := Lib.hid (hg.trans (tksGo_bad q acc r he))
        have Htk := Lib.hid (takeR_any A5 _ c5 r rfl hr wr hrd5 h5c h5m)
        generalize tkN r = tk at *
        obtain ⟨x, r2, e2⟩ := tk
        dsimp only at *
        have hne : (e2 != 0) = true := by simpa using he
        clear hg he hrd5 hq ho5
        go_wp2_with (go_at_call 18; refine Htk.out.mono ?_; rintro e w2 ⟨v2, rfl, hown2, hB2⟩)
        go_returns
        rw [Hg2.out]
        exact ⟨_, _, rfl, World.ownsRow_nil _ _ _ _, World.ownsRow_nil _ _ _ _, bTr hB hB2⟩
    · have hkm : m.toNat - k = 0 := by omega
      have hg := Hg.out
      rw [hkm] at hg
      have Hg2 := Lib.hid (show res = (acc, r, 0) from hg)
      clear hg hkm
      go_wp2
      go_returns
      rw [Hg2.out]
      refine ⟨_, _, rfl, ?_, ho5, hB⟩
      dsimp only
      rw [hak.out]
      exact ho4
end Go.Proofs.Ytefpagijgiggmab
