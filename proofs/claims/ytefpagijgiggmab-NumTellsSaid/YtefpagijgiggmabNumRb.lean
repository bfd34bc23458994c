/- The walks of the reference's numbers: Long, Short. -/
import Derived.Test.YtefpagijgiggmabNumWk
import Derived.Test.YtefpagijgiggmabNumOnlyPl
import Derived.Test.YtefpagijgiggmabAlloc
namespace Go.Proofs.Ytefpagijgiggmab
open Go Go.RowKit Go.Shelf

theorem long1_cells (m : Nat) (h : m ≤ 1073741824) : bvs (long1 m) = [.int .u8 ((m : Int) / 4294967296), .int .u8 ((m : Int) / 16777216 % 256), .int .u8 ((m : Int) / 65536 % 256), .int .u8 ((m : Int) / 256 % 256), .int .u8 ((m : Int) % 256)] := by
  have e : ∀ x : Nat, bv (UInt8.ofNat (x % 256)) = .int .u8 ((x % 256 : Nat) : Int) := fun x => toB_bv _ (Nat.mod_lt _ (by omega))
  simp only [long1, digs, toB, bvs, List.map_cons, List.map_nil, e, Nat.reducePow, Nat.reduceAdd]
  have e0 : m / 4294967296 = 0 := by omega
  rw [e0]
  simp
  omega
set_option maxRecDepth 4000 in
set_option maxHeartbeats 2000000 in
theorem longR2_any (A : Option Addr) (n c : Nat) (l : List Int) (hn : l.length = n) (hl : n ≤ 100000) (w : World) (hA : Rd w A (ivs l)) :
    Calls Try.prog 15 #[.slice A n c] w fun e w' => ∃ v, e = .returned (.tuple #[v, .int .i64 (errN l)]) ∧
      w'.ownsRow w.heap.size 5 1 v (longR l).length (bvs (longR l)) ∧ Below w.heap.size w w' := by
  have Hn := Lib.hid hn
  have HIs := Lib.hid (isR_any A n c l hn.symm (by omega) w hA)
  clear hn
  cases hN : isN l with
  | false =>
    rw [hN] at HIs
    have Hg := Lib.hid (show longR l = [] from if_neg (by rw [hN]; simp))
    have He := Lib.hid (show errN l = 2 from if_neg (by rw [hN]; simp))
    clear hN
    go_enter Try.func15, Try.ntmps15
    go_wp2_with (go_at_call 17; refine HIs.out.mono ?_; rintro e w1 ⟨rfl, rfl⟩)
    go_returns
    rw [Hg.out, He.out]
    exact ⟨_, rfl, World.ownsRow_nil _ _ _ _, Below.refl _ _⟩
  | true =>
    rw [hN] at HIs
    have HN := Lib.hid hN
    have Hg := Lib.hid (show longR l = longL l from if_pos hN)
    have He := Lib.hid (show errN l = 0 from if_pos hN)
    clear hN
    go_enter Try.func15, Try.ntmps15
    go_wp2_with (go_at_call 17; refine HIs.out.mono ?_; rintro e w1 ⟨rfl, rfl⟩)
    go_loopw [4, 5] (fun v4 i wr => ∃ (k z : Nat), k ≤ n ∧ i = .int .i64 k ∧ Hid ((longL (l.take k)).length = z) ∧ z ≤ 5 * k ∧ wr.ownsRow w1.heap.size 5 1 v4 z (bvs (longL (l.take k))) ∧ Below w1.heap.size w1 wr) (fun _ i _ => n - (intOf i).toNat)
    case atStart => exact ⟨0, 0, by omega, rfl, Lib.hid rfl, by omega, World.ownsRow_nil _ _ _ _, Below.refl _ _⟩
    case round =>
      obtain ⟨k, z, hk, rfl, Hz, hzk, hown, hB⟩ := hrel
      have hzz := hB.size
      obtain ⟨A4, c4, rfl, h4⟩ := own_slice hown
      by_cases hlt : k < n
      · obtain ⟨b, o, x, rfl, hb, hc, hx⟩ := (hA.below hB).int (k := k) (by rw [Hn.out]; exact hlt)
        have hxn := isN_at HN.out hx
        obtain ⟨m, rfl⟩ := Int.eq_ofNat_of_zero_le hxn.1
        have hm : m ≤ 1073741824 := by omega
        have Hs := Lib.hid (show longL (l.take (k + 1)) = longL (l.take k) ++ long1 m by
          unfold longL; rw [List.take_add_one, hx]; simp)
        have HC := Lib.hid (long1_cells m hm)
        have b0 : 0 ≤ (m : Int) / 4294967296 ∧ (m : Int) / 4294967296 < 256 := by omega
        have b1 : 0 ≤ (m : Int) / 16777216 % 256 ∧ (m : Int) / 16777216 % 256 < 256 := by omega
        have b2 : 0 ≤ (m : Int) / 65536 % 256 ∧ (m : Int) / 65536 % 256 < 256 := by omega
        have b3 : 0 ≤ (m : Int) / 256 % 256 ∧ (m : Int) / 256 % 256 < 256 := by omega
        have b4 : 0 ≤ (m : Int) % 256 ∧ (m : Int) % 256 < 256 := by omega
        clear hx hxn
        go_wp2_with (at_builtin; refine list_append_rd (news := [.int .u8 ((m : Int) / 4294967296), .int .u8 ((m : Int) / 16777216 % 256), .int .u8 ((m : Int) / 65536 % 256), .int .u8 ((m : Int) / 256 % 256), .int .u8 ((m : Int) % 256)]) rfl (.tmp 20) (.tmp 39) rfl elemB rfl (hown.alloc _) rfl rfl (Rd.new wr _ 5) (by intro u hu; simp at hu; rcases hu with rfl | rfl | rfl | rfl | rfl <;> rfl) (by unfold maxLen; omega) (by omega) (by simp; omega) ?_; intro v' w' hown' hg hloc)
        go_roundw
        case rel => exact ⟨k + 1, z + 5, by omega, by go_num, Lib.hid (by rw [Hs.out, List.length_append, Hz.out, long1_len]), by omega, by rw [Hs.out, bvs_append, HC.out]; exact hown', bGrow (hB.alloc hzz _) hg (by simp; omega) (hown.alloc _)⟩
        case measure => simp [intOf]; omega
      · obtain rfl : k = n := by omega
        have Ht := Lib.hid (show longL (l.take k) = longL l by rw [List.take_of_length_le (by rw [Hn.out]; omega)])
        rw [Ht.out] at hown Hz
        go_wp2
        go_returns
        rw [Hg.out, He.out, Hz.out]
        exact ⟨_, rfl, hown, hB⟩

theorem marked_cells (m j : Nat) (q : Nat) (hq : q = m / 128 ^ (j + 1)) : bvs (toB (marked (digs 128 (j + 1) m))) = .int .u8 ((q : Int) % 128 + 128) :: bvs (toB (marked (digs 128 j m))) := by
  show bvs (toB (marked (m / 128 ^ (j + 1) % 128 :: digs 128 j m))) = _
  rw [marked_two, ← hq]
  show bv (UInt8.ofNat (q % 128 + 128)) :: _ = _
  rw [toB_bv _ (by omega)]
  rfl
theorem marked_len (k n : Nat) : (toB (marked (digs 128 k n))).length = k + 1 := by rw [marked_eq]; simp [toB, digs_length]
set_option maxRecDepth 4000 in
set_option maxHeartbeats 4000000 in
theorem shortR2_any (A : Option Addr) (n c : Nat) (l : List Int) (hn : l.length = n) (hl : n ≤ 100000) (w : World) (hA : Rd w A (ivs l)) :
    Calls Try.prog 14 #[.slice A n c] w fun e w' => ∃ v, e = .returned (.tuple #[v, .int .i64 (errN l)]) ∧
      w'.ownsRow w.heap.size 5 1 v (shortR l).length (bvs (shortR l)) ∧ Below w.heap.size w w' := by
  have Hn := Lib.hid hn
  have HIs := Lib.hid (isR_any A n c l hn.symm (by omega) w hA)
  clear hn
  cases hN : isN l with
  | false =>
    rw [hN] at HIs
    have Hg := Lib.hid (show shortR l = [] from if_neg (by rw [hN]; simp))
    have He := Lib.hid (show errN l = 2 from if_neg (by rw [hN]; simp))
    clear hN
    go_enter Try.func14, Try.ntmps14
    go_wp2_with (go_at_call 17; refine HIs.out.mono ?_; rintro e w1 ⟨rfl, rfl⟩)
    go_returns
    rw [Hg.out, He.out]
    exact ⟨_, rfl, World.ownsRow_nil _ _ _ _, Below.refl _ _⟩
  | true =>
    rw [hN] at HIs
    have HN := Lib.hid hN
    have Hg := Lib.hid (show shortR l = shortL l from if_pos hN)
    have He := Lib.hid (show errN l = 0 from if_pos hN)
    clear hN
    go_enter Try.func14, Try.ntmps14
    go_wp2_with (go_at_call 17; refine HIs.out.mono ?_; rintro e w1 ⟨rfl, rfl⟩)
    go_loopw [4, 5] (fun v4 i wr => ∃ (k z : Nat), k ≤ n ∧ i = .int .i64 k ∧ Hid ((shortL (l.take k)).length = z) ∧ z ≤ 5 * k ∧ wr.ownsRow w1.heap.size 5 1 v4 z (bvs (shortL (l.take k))) ∧ Below w1.heap.size w1 wr) (fun _ i _ => n - (intOf i).toNat)
    case atStart => exact ⟨0, 0, by omega, rfl, Lib.hid rfl, by omega, World.ownsRow_nil _ _ _ _, Below.refl _ _⟩
    case round =>
      obtain ⟨k, z, hk, rfl, Hz, hzk, hown, hB⟩ := hrel
      have hzz := hB.size
      obtain ⟨A4, c4, rfl, h4⟩ := own_slice hown
      by_cases hlt : k < n
      · obtain ⟨b, o, x, rfl, hb, hc, hx⟩ := (hA.below hB).int (k := k) (by rw [Hn.out]; exact hlt)
        have hxn := isN_at HN.out hx
        obtain ⟨m, rfl⟩ := Int.eq_ofNat_of_zero_le hxn.1
        have hm : m ≤ 1073741824 := by omega
        have Hs := Lib.hid (show shortL (l.take (k + 1)) = shortL (l.take k) ++ short1 m by
          unfold shortL; rw [List.take_add_one, hx]; simp)
        have b0 : 0 ≤ (m : Int) % 128 ∧ (m : Int) % 128 < 128 := by omega
        have b1 : 0 ≤ (m : Int) / 128 := by omega
        clear hx hxn
        obtain ⟨wo, rfl⟩ : ∃ wo, wo = wr := ⟨_, rfl⟩
        have hown1 := World.ownsRow_lit (base := wo.heap.size) (e := 5) (size := 1) wo #[.int .u8 ((m : Int) % 128)] 1 (Nat.le_refl _) (by simp [maxLen]) rfl
        go_wp2_with fail
        have hm0 : bvs (toB (marked (digs 128 0 m))) = [.int .u8 ((m : Int) % 128)] := by
          show [bv (UInt8.ofNat (m % 128))] = _
          rw [toB_bv _ (by omega)]; rfl
        go_loopw [6, 7] (fun v6 v7 wr => ∃ (j q : Nat), v7 = .int .i64 q ∧ j < 5 ∧ Hid (q = m / 128 ^ (j + 1)) ∧ Hid (0 < j → 128 ^ j ≤ m) ∧ wr.ownsRow wo.heap.size 5 1 v6 (j + 1) (bvs (toB (marked (digs 128 j m)))) ∧ Below wo.heap.size wo wr) (fun _ v7 _ => (intOf v7).toNat)
        case atStart => exact ⟨0, m / 128, by push_cast; rfl, by omega, Lib.hid (by simp), Lib.hid (fun h => by omega), by rw [hm0]; exact hown1, (Below.refl _ _).alloc (Nat.le_refl _) _⟩
        case round =>
          clear hm0 hown1
          obtain ⟨j, q, rfl, hj, Hq, Hj, hown6, hBi⟩ := hrel
          have hzi := hBi.size
          have hqm : q ≤ 1073741824 := by rw [Hq.out]; exact Nat.le_trans (Nat.div_le_self _ _) hm
          obtain ⟨A6, c6, rfl, h6⟩ := own_slice hown6
          by_cases hq0 : 0 < q
          · have hcell := marked_cells m j q Hq.out
            have HC := Lib.hid hcell
            have Hj2 := Lib.hid (show 128 ^ (j + 1) ≤ m by
              have := Hq.out
              have hp : 0 < 128 ^ (j + 1) := Nat.pow_pos (by omega)
              have h1 : 1 ≤ m / 128 ^ (j + 1) := by omega
              have := (Nat.le_div_iff_mul_le hp).1 h1
              omega)
            have hj4 : j + 1 < 5 := by
              have h1 := Hj2.out
              rcases Nat.lt_or_ge (j + 1) 5 with h | h
              · exact h
              · exfalso
                obtain rfl : j = 4 := by omega
                simp at h1; omega
            have Hq2 := Lib.hid (show q / 128 = m / 128 ^ (j + 1 + 1) by rw [Hq.out, Nat.div_div_eq_div_mul, ← Nat.pow_succ])
            have c0 : 0 ≤ (q : Int) % 128 + 128 ∧ (q : Int) % 128 + 128 < 256 := by omega
            have c1 : (0 : Int) < (q : Int) := by omega
            have hown2 := World.ownsRow_lit (base := wo.heap.size) (e := 5) (size := 1) wr #[.int .u8 ((q : Int) % 128 + 128)] 1 hzi (by simp [maxLen]) rfl
            have hr6 := (Rd.of_own hown6).below ((Below.refl wr.heap.size wr).alloc (Nat.le_refl _) (.cells #[.int .u8 ((q : Int) % 128 + 128)] 5))
            have Hl6 := Lib.hid (show (bvs (toB (marked (digs 128 j m)))).length = (j + 1) * 1 by rw [bvs_length, marked_len]; omega)
            clear hcell
            go_wp2_with (at_builtin; refine list_append_rd (news := bvs (toB (marked (digs 128 j m)))) rfl (.tmp 37) (.tmp 38) rfl elemB rfl hown2 rfl Hl6.out hr6 (bvs_one _) (by unfold maxLen; omega) (by omega) (by simp; omega) ?_; intro v' w' hown' hg hloc)
            go_roundw
            case rel => exact ⟨j + 1, q / 128, by push_cast; rfl, hj4, Lib.hid Hq2.out, Lib.hid (fun _ => Hj2.out), by rw [HC.out, Nat.add_comm (j + 1) 1]; exact hown', bGrow (hBi.alloc hzi _) hg (by simp; omega) hown2⟩
            case measure => simp [intOf]; omega
          · obtain rfl : q = 0 := by omega
            have HK := Lib.hid (show topK m = j from topK_of m j hj Hj.out (by
              have := Hq.out
              have hp : 0 < 128 ^ (j + 1) := Nat.pow_pos (by omega)
              have := (Nat.div_eq_zero_iff (a := m) (b := 128 ^ (j + 1))).1 this.symm
              omega))
            have HSh := Lib.hid (show toB (marked (digs 128 j m)) = short1 m by rw [short1, HK.out])
            rw [HSh.out] at hown6
            have hr6 := Rd.of_own hown6
            have hown4 := own_below hown hBi
            have Hl6 := Lib.hid (show (bvs (short1 m)).length = (j + 1) * 1 by rw [bvs_length, short_len, HK.out]; omega)
            go_wp2_with (at_builtin; refine list_append_rd (news := bvs (short1 m)) rfl (.tmp 40) (.tmp 41) rfl elemB rfl hown4 rfl Hl6.out hr6 (bvs_one _) (by unfold maxLen; omega) (by omega) (by omega) ?_; intro v' w' hown' hg hloc)
            go_roundw
            case rel => exact ⟨k + 1, z + (j + 1), by omega, by go_num, Lib.hid (by rw [Hs.out, List.length_append, Hz.out, short_len, HK.out]), by omega, by rw [Hs.out, bvs_append]; exact hown', bGrow (bTr hB hBi) hg (by omega) hown4⟩
            case measure => simp [intOf]; omega
      · obtain rfl : k = n := by omega
        have Ht := Lib.hid (show shortL (l.take k) = shortL l by rw [List.take_of_length_le (by rw [Hn.out]; omega)])
        rw [Ht.out] at hown Hz
        go_wp2
        go_returns
        rw [Hg.out, He.out, Hz.out]
        exact ⟨_, rfl, hown, hB⟩
end Go.Proofs.Ytefpagijgiggmab
