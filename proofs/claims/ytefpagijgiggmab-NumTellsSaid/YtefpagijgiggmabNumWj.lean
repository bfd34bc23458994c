/- The walks of numbers: Takes. -/
import Derived.Test.YtefpagijgiggmabNumWh
import Derived.Test.YtefpagijgiggmabNumTs
import Derived.Test.YtefpagijgiggmabAlloc
namespace Go.Proofs.Ytefpagijgiggmab
open Go Go.RowKit Go.Shelf

theorem take_n (A : Option Addr) (n c : Nat) (l : List UInt8) (hn : l.length = n) (hl : l.length ≤ 1000000) (w : World) (hA : Rd w A (bvs l)) (hlc : l.length ≤ c) (hcm : c ≤ maxLen) :
    Calls Try.prog 13 #[.slice A n c] w fun e w' => ∃ v, e = .returned (.tuple #[.int .i64 (tkN l).1, v, .int .i64 (tkN l).2.2]) ∧
      w'.ownsRow w.heap.size 5 1 v (tkN l).2.1.length (bvs (tkN l).2.1) ∧ Below w.heap.size w w' := by
  subst hn; exact take_any A c l hl w hA hlc hcm

set_option maxHeartbeats 2000000 in
theorem takes_any (A : Option Addr) (c : Nat) (b : List UInt8) (m : Int) (hm : m ≤ 1000000) (hl : b.length ≤ 1000000) (w : World) (hA : Rd w A (bvs b)) (hlc : b.length ≤ c) (hcm : c ≤ maxLen) :
    Calls Try.prog 12 #[.slice A b.length c, .int .i64 m] w fun e w' => ∃ v u, e = .returned (.tuple #[v, u, .int .i64 (tksN b m.toNat).2.2]) ∧
      w'.ownsRow w.heap.size 3 1 v (tksN b m.toNat).1.length (ivs (tksN b m.toNat).1) ∧ w'.ownsRow w.heap.size 5 1 u (tksN b m.toNat).2.1.length (bvs (tksN b m.toNat).2.1) ∧ Below w.heap.size w w' := by
  obtain ⟨res, hres⟩ : ∃ r, r = tksN b m.toNat := ⟨_, rfl⟩
  rw [← hres]
  have H0 := Lib.hid hres
  clear hres
  go_enter Try.func12, Try.ntmps12
  go_wp2_with (go_at_call 27; refine (clone_any A c b (by omega) _ hA).mono ?_; rintro e w1 ⟨v1, rfl, hown1, hB1⟩)
  obtain ⟨A1, c1, rfl, _⟩ := own_slice hown1
  go_loopw [4, 5, 6, 11] (fun v4 v5 v6 i wr => ∃ (k : Nat) (acc : List Int) (r : List UInt8), k ≤ m.toNat ∧ i = .int .i64 k ∧ v6 = .int .i64 0 ∧ Hid (acc.length = k) ∧ r.length ≤ 1000000 ∧ Hid (res = tksGo (m.toNat - k) acc r) ∧
      wr.ownsRow w.heap.size 3 1 v4 k (ivs acc) ∧ wr.ownsRow w.heap.size 5 1 v5 r.length (bvs r) ∧ Below w.heap.size w wr) (fun _ _ _ i _ => m.toNat - (intOf i).toNat)
  case atStart => exact ⟨0, [], b, by omega, rfl, rfl, Lib.hid rfl, hl, Lib.hid H0.out, World.ownsRow_nil _ _ _ _, hown1, hB1⟩
  case round =>
    obtain ⟨k, acc, r, hk, rfl, rfl, hak, hr, Hg, ho4, ho5, hB⟩ := hrel
    have hz := hB.size
    obtain ⟨A4, c4, rfl, _⟩ := own_slice ho4
    obtain ⟨A5, c5, rfl, h5c, h5m⟩ := own_slice ho5
    by_cases hlt : (k : Int) < m
    · obtain ⟨q, hq⟩ : ∃ q, m.toNat - k = q + 1 := ⟨m.toNat - k - 1, by omega⟩
      have hq2 : m.toNat - (k + 1) = q := by omega
      have hg := Hg.out
      rw [hq] at hg
      have hrd5 := Rd.of_own ho5
      have hlk := tkN_rest r
      by_cases he : (tkN r).2.2 = 0
      · have Hg2 := Lib.hid (hg.trans (tksGo_more q acc r he))
        have He := Lib.hid he
        have Htk := Lib.hid (take_n A5 _ c5 r rfl hr wr hrd5 h5c h5m)
        generalize tkN r = tk at *
        obtain ⟨x, r2, e2⟩ := tk
        dsimp only at *
        obtain rfl : e2 = 0 := He.out
        clear He hg he hrd5 hq ho5
        go_wp2_with (first | (go_at_call 13; refine Htk.out.mono ?_; rintro e w2 ⟨v2, rfl, hown2, hB2⟩; have hz2 := hB2.size; have ho4' := own_below ho4 hB2; have hlt4 := ho4.lt) | (at_builtin; refine list_append_rd (news := ivs [x]) rfl (.tmp 22) (.tmp 24) rfl elemI rfl (ho4'.alloc _) rfl rfl (Rd.new w2 [.int .i64 x] 3) (ivs_one _) (by unfold maxLen; omega) (by omega) (by simp; omega) ?_; intro v' w' hown' hg hloc))
        go_roundw
        case rel =>
          have hk3 : KeepB (fun b => (Value.slice A4 k c4).ownBlock ≠ some b) w2 w' := ((KeepB.refl _ w2).alloc _).grown hg (fun x hx _ hne => hne hx)
          have hb3 : Below w.heap.size w w' := bGrow ((bTr hB hB2).alloc (by omega) _) hg (by simp; omega) (ho4'.alloc _)
          have ho2 := own_keep hown2 hk3 (fun b hb he => by have h1 := (hown2.lt b hb).1; have h2 := (hlt4 b he).2; omega)
          refine ⟨k + 1, acc ++ [x], r2, by omega, by go_num, rfl, Lib.hid (by rw [List.length_append, hak.out]; rfl), by omega, Lib.hid (by rw [hq2]; exact Hg2.out), ?_, own_base ho2 hz, hb3⟩
          have : ivs (acc ++ [x]) = ivs acc ++ ivs [x] := by simp [ivs]
          rw [this]
          exact hown'
        case measure => simp [intOf]; omega
      · have Hg2 := Lib.hid (hg.trans (tksGo_bad q acc r he))
        have Htk := Lib.hid (take_n A5 _ c5 r rfl hr wr hrd5 h5c h5m)
        generalize tkN r = tk at *
        obtain ⟨x, r2, e2⟩ := tk
        dsimp only at *
        have hne : (e2 != 0) = true := by simpa using he
        clear hg he hrd5 hq ho5
        go_wp2_with (go_at_call 13; refine Htk.out.mono ?_; rintro e w2 ⟨v2, rfl, hown2, hB2⟩)
        go_returns
        rw [Hg2.out]
        exact ⟨_, _, rfl, World.ownsRow_nil _ _ _ _, World.ownsRow_nil _ _ _ _, bTr hB hB2⟩
    · have hkm : m.toNat - k = 0 := by omega
      have hg := Hg.out
      rw [hkm] at hg
      have Hg2 := Lib.hid (show res = (acc, r, 0) from hg)
      clear hg hkm
      go_wp2
      go_returns
      rw [Hg2.out]
      refine ⟨_, _, rfl, ?_, ho5, hB⟩
      dsimp only
      rw [hak.out]
      exact ho4
end Go.Proofs.Ytefpagijgiggmab
