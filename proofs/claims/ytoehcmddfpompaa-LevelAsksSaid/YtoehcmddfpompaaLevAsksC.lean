/- The walk of LevelAsks, part C. -/
import Derived.Test.YtoehcmddfpompaaLevWf
import Derived.Test.YtoehcmddfpompaaEntRn
import Derived.Test.YtoehcmddfpompaaEntFinePl
import Derived.Deep.DeepCutAuto
namespace Go.Proofs.Ytoehcmddfpompaa
open Go Go.RowKit

set_option maxRecDepth 100000 in
set_option maxHeartbeats 8000000 in
theorem asks_keep (a1 a2 a3 a4 : Int) (a5 : Bool) (k t : Int) (ht : (a2 < 1 ∧ t = 1) ∨ (1 ≤ a2 ∧ a2 = t)) (A : Option Addr) (n c : Nat) (l : List Int) (hn : l.length = n) (w : World) (hA : Rd w A (ivs l)) (hf : fineB ⟨a1, a2, a3, a4, a5⟩ = true) (hi : a1 < 1073741824) (h40 : n ≤ 40) (t1 : 1 ≤ t) (t2 : t ≤ 1073741824) (E : Int) (hE : checkS k ⟨a1, a2, a3, a4, a5⟩ l = E) (hE2 : E = 222 ∨ E = 223) (b1 b2 b3 b4 : Int) (b5 : Bool) (x : En) (hX : entryL k 0 t = (x, 0)) (hNx : nextS ⟨a1, a2, a3, a4, a5⟩ x = ⟨b1, b2, b3, b4, b5⟩) (hk : k = 3 ∨ k = 4) (e4 : b4 = a4) (e5 : b5 = a5) : Calls Try.prog 3 #[.agg #[.int .i64 a1, .int .i64 a2, .int .i64 a3, .int .i64 a4, .bool a5], .int .i64 k, .slice A n c] w fun e w' => e = .returned (.bool true) ∧ Below w.heap.size w w' := by
  subst e4 e5
  have HNx := Lib.hid hNx
  clear hNx
  obtain ⟨z, hz, z0, z2⟩ : ∃ z, z = stageS ⟨b1, b2, b3, b4, b5⟩ ∧ 0 ≤ z ∧ z ≤ 2 := ⟨_, rfl, stageS_bd _⟩
  have HST := Lib.hid (fun W => stage_any ⟨b1, b2, b3, b4, b5⟩ W)
  rw [← hz] at HST
  have HSO := Lib.hid (fun W => stage_any ⟨a1, a2, a3, b4, b5⟩ W)
  rw [show stageS ⟨a1, a2, a3, b4, b5⟩ = z from by rw [hz]; rfl] at HSO
  dsimp only [St.v] at HST HSO
  clear hz
  have Hn := Lib.hid hn
  have hl : l.length ≤ 1099511627776 := by omega
  have hs0 := Box5.new w ⟨a1, a2, a3, b4, b5⟩ 23
  have hBs : Below w.heap.size w (w.alloc (.cells #[.int .i64 a1, .int .i64 a2, .int .i64 a3, .int .i64 b4, .bool b5] 23)) := (Below.refl _ _).alloc (Nat.le_refl _) _
  dsimp only at hs0
  clear hn
  go_enter Try.func3, Try.ntmps3
  go_wp2_with fail
  refine (fineR_any ⟨a1, a2, a3, b4, b5⟩ _).mono ?_
  rintro e w1 ⟨rfl, hB1⟩
  rw [hf]
  have hs1 := hs0.keep (keepT hB1) trivial
  have hB := bTr hBs hB1
  clear hs0 hB1 hBs
  have hs1' := hs1
  obtain ⟨⟨c0, c1, c2, c3, c4⟩, _⟩ := hs1'
  dsimp only at c0 c1 c2 c3 c4
  have hls := hs1.lt
  go_wp2_with fail
  refine (check_any k ⟨a1, a2, a3, b4, b5⟩ A n c l Hn.out hl w1 (hA.below hB)).mono ?_
  rintro e w2 ⟨rfl, hB2⟩
  rw [hE]
  replace hs1 := hs1.keep (keepT hB2) trivial
  replace hB := bTr hB hB2
  clear hB2 c0 c1 c2 c3 c4 hls
  have hs1' := hs1
  obtain ⟨⟨c0, c1, c2, c3, c4⟩, _⟩ := hs1'
  dsimp only at c0 c1 c2 c3 c4
  have hls := hs1.lt
  have HX := Lib.hid hX
  have HW := Lib.hid (show ∀ W, Calls Try.prog 9 #[.int .i64 k, .int .i64 0, .int .i64 t] W fun e w' => e = .returned (.tuple #[(entryL k 0 t).1.v, .int .i64 (entryL k 0 t).2]) ∧ Below W.heap.size W w' from fun W => entryL_any k 0 t W)
  rw [HX.out] at HW
  clear hX HX
  rcases ht with ⟨h2, rfl⟩ | ⟨h2, rfl⟩
  all_goals
    go_wp2_with fail
    refine (HW.out w2).mono ?_
    rintro e w3 ⟨rfl, hB3⟩
    dsimp only [En.v]
    replace hs1 := hs1.keep (keepT hB3) trivial
    replace hB := bTr hB hB3
    clear hB3 c0 c1 c2 c3 c4 hls
    obtain ⟨x1, x2, x3⟩ := x
    dsimp only [En.v]
    have hs1' := hs1
    obtain ⟨⟨c0, c1, c2, c3, c4⟩, _⟩ := hs1'
    dsimp only at c0 c1 c2 c3 c4
    have hls := hs1.lt
    rcases hE2 with rfl | rfl <;> rcases hk with rfl | rfl
    all_goals
      go_wp2_with fail
      have hs4 := hs1.alloc (.cells #[.int .i64 x1, .int .i64 x2, .int .i64 x3] 30)
      have hB4 := hB.alloc hB.size (.cells #[.int .i64 x1, .int .i64 x2, .int .i64 x3] 30)
      generalize w3.alloc (.cells #[.int .i64 x1, .int .i64 x2, .int .i64 x3] 30) = w4 at *
      refine (nextR_any ⟨a1, a2, a3, b4, b5⟩ ⟨x1, x2, x3⟩ w4).mono ?_
      rintro e w5 ⟨rfl, hB5⟩
      rw [HNx.out]
      dsimp only [St.v]
      go_upto_region 10 with fail
      have hs6 := (hs4.keep (keepT hB5) trivial).alloc (.cells #[.int .i64 b1, .int .i64 b2, .int .i64 b3, .int .i64 b4, .bool b5] 23)
      have hn6 := Box5.new w5 ⟨b1, b2, b3, b4, b5⟩ 23
      have hB6 := (bTr hB4 hB5).alloc (bTr hB4 hB5).size (.cells #[.int .i64 b1, .int .i64 b2, .int .i64 b3, .int .i64 b4, .bool b5] 23)
      dsimp only at hn6
      clear hs1 hs4 hB hB4 hB5 c0 c1 c2 c3 c4 hls
      generalize w5.alloc (.cells #[.int .i64 b1, .int .i64 b2, .int .i64 b3, .int .i64 b4, .bool b5] 23) = w6 at *
      generalize w5.heap.size = g at *
      have lg := hn6.lt
      have ls := hs6.lt
      have hs6' := hs6
      have hn6' := hn6
      obtain ⟨⟨c0, c1, c2, c3, c4⟩, _⟩ := hs6'
      obtain ⟨⟨d0, d1, d2, d3, d4⟩, _⟩ := hn6'
      dsimp only at c0 c1 c2 c3 c4 d0 d1 d2 d3 d4
      go_wp2
      refine region_flow0 19 ⟨by kernel_rfl, by kernel_rfl⟩ (fun wf HB => ?_)
      refine' wpF_lights [true, true, true, true, true, true, true, true, true, true, true, true, true, true, false, true] 144 _ (by decide +kernel) rfl (fun W hW => ?_) ?_
      rotate_left
      · obtain ⟨hcW, hfW⟩ := bCells (bTr HB hW)
        dsimp only [pickL]
        go_wp2
        exact Lend.ok
      refine wpF_call [false, false, false, false, false, false, false, false, false, false, false, false, false, false, true] 14 (by decide +kernel) rfl rfl ?_
      dsimp only [pickL]
      go_wp2_with fail
      refine (HST.out _).mono ?_
      rintro e w7 ⟨rfl, hB⟩
      go_wp2
      replace HB := bTr HB hB
      refine wpF_call [false, false, false, false, false, false, false, false, false, false, false, false, false, false, false, false, true] 16 (by decide +kernel) rfl rfl ?_
      dsimp only [pickL]
      go_wp2_with fail
      refine (HSO.out _).mono ?_
      rintro e w8 ⟨rfl, hB⟩
      go_wp2
      replace HB := bTr HB hB
      refine' wpF_lights [false, false, false, false, false, false, false, false, false, false, false, false, false, false, false, false, false, true, true] 144 _ (by decide +kernel) rfl (fun W hW => ?_) ?_
      rotate_left
      · obtain ⟨hcW, hfW⟩ := bCells (bTr HB hW)
        dsimp only [pickL]
        go_wp2
        exact Lend.ok
      refine wpF_end (by kernel_rfl) ?_
      replace hs6 := hs6.keep (keepT HB) trivial
      replace hn6 := hn6.keep (keepT HB) trivial
      replace hB6 := bTr hB6 HB
      replace lg := hn6.lt
      replace ls := hs6.lt
      clear c0 c1 c2 c3 c4 d0 d1 d2 d3 d4 HB
      have hs6' := hs6
      have hn6' := hn6
      obtain ⟨⟨c0, c1, c2, c3, c4⟩, _⟩ := hs6'
      obtain ⟨⟨d0, d1, d2, d3, d4⟩, _⟩ := hn6'
      dsimp only at c0 c1 c2 c3 c4 d0 d1 d2 d3 d4
      go_wp2_with fail
      refine (HST.out _).mono ?_
      rintro e w7 ⟨rfl, hB7⟩
      replace hs6 := hs6.keep (keepT hB7) trivial
      replace hn6 := hn6.keep (keepT hB7) trivial
      replace hB6 := bTr hB6 hB7
      replace lg := hn6.lt
      replace ls := hs6.lt
      clear c0 c1 c2 c3 c4 d0 d1 d2 d3 d4 hB7
      have hs6' := hs6
      have hn6' := hn6
      obtain ⟨⟨c0, c1, c2, c3, c4⟩, _⟩ := hs6'
      obtain ⟨⟨d0, d1, d2, d3, d4⟩, _⟩ := hn6'
      dsimp only at c0 c1 c2 c3 c4 d0 d1 d2 d3 d4
      go_wp2_with fail
      refine (HST.out _).mono ?_
      rintro e w8 ⟨rfl, hB8⟩
      replace hs6 := hs6.keep (keepT hB8) trivial
      replace hn6 := hn6.keep (keepT hB8) trivial
      replace hB6 := bTr hB6 hB8
      replace lg := hn6.lt
      replace ls := hs6.lt
      clear c0 c1 c2 c3 c4 d0 d1 d2 d3 d4 hB8
      go_wp2_with fail
      refine (wakes_any _).mono ?_
      rintro e w9 ⟨rfl, hB9⟩
      go_wp2
      go_returns
      exact ⟨rfl, bTr hB6 hB9⟩

end Go.Proofs.Ytoehcmddfpompaa
