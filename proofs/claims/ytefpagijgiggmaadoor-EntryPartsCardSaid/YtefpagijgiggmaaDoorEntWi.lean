/- What the laws of entries call besides: names, rows of numbers, what wakes. -/
import Derived.Test.YtefpagijgiggmaaDoorEntWh
import Derived.Deep.DeepCutAuto
namespace Go.Proofs.YtefpagijgiggmaaDoor
open Go Go.RowKit

/-- The kinds' names as they lie in memory. -/
def NamesOK (w : World) : Prop := w.cell? ⟨0, 3, none⟩ = some (.string ⟨#[114, 101, 118, 101, 114, 116]⟩)
theorem NamesOK.below {w w' : World} (h : NamesOK w) (hb : Below w.heap.size w w') : NamesOK w' := by
  unfold NamesOK at *
  exact (hb.cell (p := ⟨0, 3, none⟩) (World.block_lt_of_cell? w _ h)).trans h

theorem name3 (w : World) (h : NamesOK w) : Calls Tryd.prog 17 #[.int .i64 3] w fun e w' => e = .returned (.string ⟨#[114, 101, 118, 101, 114, 116]⟩) ∧ w = w' := by
  unfold NamesOK at h
  go_enter Tryd.func17, Tryd.ntmps17
  go_wp2
  go_ret
  exact ⟨rfl, rfl⟩
theorem name5 (w : World) : Calls Tryd.prog 17 #[.int .i64 5] w fun e w' => e = .returned (.string ⟨#[]⟩) ∧ w = w' := by
  go_enter Tryd.func17, Tryd.ntmps17
  go_wp2
  go_ret
  exact ⟨rfl, rfl⟩

theorem ivs_at {l : List Int} {i : Nat} {n : Int} (hi : l[i]? = some n) : (ivs l)[i]? = some (.int .i64 n) := by
  unfold ivs; rw [List.getElem?_map, hi]; rfl
set_option maxHeartbeats 1000000 in
theorem ints_any (A B : Option Addr) (n m c d : Nat) (l k : List Int) (hl : l.length = n) (hk : k.length = m) (hn : n ≤ 1099511627776) (w : World) (hA : Rd w A (ivs l)) (hB : Rd w B (ivs k)) :
    Calls Tryd.prog 13 #[.slice A n c, .slice B m d] w fun e w' => e = .returned (.bool (decide (l = k))) ∧ Below w.heap.size w w' := by
  obtain ⟨res, hres⟩ : ∃ r, r = decide (l = k) := ⟨_, rfl⟩
  rw [← hres]
  have Hres := Lib.hid hres
  clear hres
  by_cases hnm : n = m
  · subst hnm
    go_enter Tryd.func13, Tryd.ntmps13
    go_wp2
    go_loopw [5] (fun i wr => ∃ q : Nat, q ≤ n ∧ i = .int .i64 q ∧ l.take q = k.take q ∧ Below w.heap.size w wr) (fun i _ => n - (intOf i).toNat)
    case atStart => exact ⟨0, by omega, rfl, rfl, Below.refl _ _⟩
    case round =>
      obtain ⟨q, hq, rfl, heq, hBw⟩ := hrel
      by_cases hlt : q < n
      · have h1 : l[q]? = some l[q] := List.getElem?_eq_getElem (by omega)
        have h2 : k[q]? = some k[q] := List.getElem?_eq_getElem (by omega)
        obtain ⟨b, o, rfl, hb, c1⟩ := (hA.below hBw) q _ (ivs_at h1)
        obtain ⟨b', o', rfl, hb', c2⟩ := (hB.below hBw) q _ (ivs_at h2)
        have Heq := Lib.hid heq
        clear heq
        have h3 := Lib.hid h1
        have h4 := Lib.hid h2
        clear h1 h2
        generalize l[q] = x at *
        generalize k[q] = y at *
        have t1 : (0 : Int) ≤ (q : Int) := by omega
        have t2 : (q : Int) < (n : Int) := by omega
        by_cases hxy : x = y
        · subst hxy
          go_wp2
          refine region_flow0 9 ⟨by kernel_rfl, by kernel_rfl⟩ (fun wf HB => ?_)
          refine' wpF_lights [true, true, true, true, true, true, true, true, true] 26 _ (by decide +kernel) rfl (fun W hW => ?_) ?_
          rotate_left
          · obtain ⟨hcW, hfW⟩ := bCells (bTr HB hW)
            dsimp only [pickL]
            go_wp2
            exact Lend.ok
          refine wpF_end (by kernel_rfl) ?_
          go_wp2
          go_roundw
          case rel => exact ⟨q + 1, by omega, by go_num, by rw [List.take_add_one, List.take_add_one, Heq.out, h3.out, h4.out], bTr hBw HB⟩
          case measure => simp [intOf]; omega
        · have hg : (x != y) = true := by simpa using hxy
          have Hx := Lib.hid hxy
          clear hxy
          go_wp2
          refine region_flow0 9 ⟨by kernel_rfl, by kernel_rfl⟩ (fun wf HB => ?_)
          refine' wpF_lights [true, true, true, true, true, true, true, true, true] 26 _ (by decide +kernel) rfl (fun W hW => ?_) ?_
          rotate_left
          · obtain ⟨hcW, hfW⟩ := bCells (bTr HB hW)
            dsimp only [pickL]
            go_wp2
            exact Lend.ok
          refine wpF_end (by kernel_rfl) ?_
          go_wp2
          go_ret
          refine ⟨ret_bool ?_, bTr hBw HB⟩
          rw [Hres.out]
          have : l ≠ k := by
            rintro rfl
            have e1 := h3.out
            rw [h4.out] at e1
            exact Hx.out (Option.some.inj e1).symm
          simp [this]
      · obtain rfl : q = n := by omega
        go_wp2
        go_ret
        refine ⟨ret_bool ?_, hBw⟩
        rw [Hres.out]
        rw [List.take_of_length_le (by omega), List.take_of_length_le (by omega)] at heq
        simp [heq]
  · have g : ((n : Int) != (m : Int)) = true := by simp; omega
    go_enter Tryd.func13, Tryd.ntmps13
    go_wp2
    go_ret
    refine ⟨ret_bool ?_, Below.refl _ _⟩
    rw [Hres.out]
    have : l ≠ k := by rintro rfl; omega
    simp [this]

set_option maxHeartbeats 1000000 in
theorem wakes_any (w : World) (hr : NamesOK w) : Calls Tryd.prog 8 #[] w fun e w' => e = .returned (.bool true) ∧ Below w.heap.size w w' := by
  go_enter Tryd.func8, Tryd.ntmps8
  go_wp2_with fail
  refine (firstE_any _).mono ?_
  rintro e w1 ⟨rfl, hB1⟩
  go_wp2_with fail
  have hB2 : Below w.heap.size w (w1.alloc (.cells #[.int .i64 1, .int .i64 2, .int .i64 0, .int .i64 1, .int .i64 4, .int .i64 0, .int .i64 2, .int .i64 3, .int .i64 0] 29)) := hB1.alloc hB1.size _
  have hrd := Rd.new w1 (ens [⟨1, 2, 0⟩, ⟨1, 4, 0⟩, ⟨2, 3, 0⟩]) 29
  refine (all_any firstS _ 3 [⟨1, 2, 0⟩, ⟨1, 4, 0⟩, ⟨2, 3, 0⟩] (by decide) (by decide) _ hrd).mono ?_
  rintro e w2 ⟨rfl, hB3⟩
  rw [show allS firstS [⟨1, 2, 0⟩, ⟨1, 4, 0⟩, ⟨2, 3, 0⟩] = ⟨3, 2, 0, 2, true⟩ by decide +kernel]
  replace hB3 := bTr hB2 hB3
  dsimp only [St.v]
  clear hrd hB2 hB1
  have hS := NextW.new
  go_wp2_with fail
  refine (next_any ⟨3, 2, 0, 2, true⟩ ⟨2, 1, 4⟩ _).mono ?_
  rintro e w4 ⟨rfl, hB4⟩
  rw [show nextS ⟨3, 2, 0, 2, true⟩ ⟨2, 1, 4⟩ = ⟨4, 2, 5, 2, true⟩ by decide +kernel]
  dsimp only [St.v]
  have hx5 := (Box5.new w2 ⟨3, 2, 0, 2, true⟩ 23).keep (keepT hB4) trivial
  have hB5 := bTr (hB3.alloc hB3.size (.cells #[.int .i64 3, .int .i64 2, .int .i64 0, .int .i64 2, .bool true] 23)) hB4
  have hl := hx5.lt
  obtain ⟨⟨c0, c1, c2, c3, c4⟩, _⟩ := hx5
  dsimp only at c0 c1 c2 c3 c4
  clear hB3 hB4
  have hne : ¬ w2.heap.size = w4.heap.size := by omega
  have hr4 := hr.below hB5
  clear hS
  obtain ⟨w5, hw5⟩ : ∃ w5, w5 = w4.alloc (.cells #[.int .i64 4, .int .i64 2, .int .i64 5, .int .i64 2, .bool true] 23) := ⟨_, rfl⟩
  have hB6 : Below w.heap.size w w5 := by rw [hw5]; exact hB5.alloc hB5.size _
  have hr5 : NamesOK w5 := hr.below hB6
  have k4 : KeepB (fun _ => True) w4 w5 := by rw [hw5]; exact (KeepB.refl _ _).alloc _
  have d0 := k4.cell (p := ⟨w2.heap.size, 0, none⟩) trivial c0
  have d1 := k4.cell (p := ⟨w2.heap.size, 1, none⟩) trivial c1
  have d2 := k4.cell (p := ⟨w2.heap.size, 2, none⟩) trivial c2
  have d3 := k4.cell (p := ⟨w2.heap.size, 3, none⟩) trivial c3
  have d4 := k4.cell (p := ⟨w2.heap.size, 4, none⟩) trivial c4
  have e5 : w5.cell? ⟨w4.heap.size, 0, none⟩ = some (.int .i64 4) := by subst hw5; simp
  have e6 : w5.cell? ⟨w4.heap.size, 2, none⟩ = some (.int .i64 5) := by subst hw5; simp
  have Hw5 := Lib.hid hw5
  clear hw5 k4
  go_upto_region 3 with fail
  rw [← Hw5.out]
  clear c0 c1 c2 c3 c4 Hw5 hB5 hr4
  go_wp2_with fail
  refine (name3 w5 hr5).mono ?_
  rintro e w6 ⟨rfl, rfl⟩
  go_wp2_with fail
  refine (name5 w5).mono ?_
  rintro e w6 ⟨rfl, rfl⟩
  go_wp2_with fail
  refine (right_any ⟨1, 0, 0⟩ w5).mono ?_
  rintro e w6 ⟨rfl, hB7⟩
  rw [show rightB ⟨1, 0, 0⟩ = true by decide +kernel]
  go_wp2_with fail
  refine (right_any ⟨1, 0, 1⟩ w6).mono ?_
  rintro e w7 ⟨rfl, hB8⟩
  rw [show rightB ⟨1, 0, 1⟩ = false by decide +kernel]
  replace hB8 := bTr hB7 hB8
  have lt5 := World.block_lt_of_cell? w5 _ d0
  replace d0 := ((bCells hB8).1 _ 0 lt5).trans d0
  replace d1 := ((bCells hB8).1 _ 1 lt5).trans d1
  replace d2 := ((bCells hB8).1 _ 2 lt5).trans d2
  replace d3 := ((bCells hB8).1 _ 3 lt5).trans d3
  replace d4 := ((bCells hB8).1 _ 4 lt5).trans d4
  go_wp2_with fail
  refine (fine_any ⟨3, 2, 0, 2, true⟩ w7).mono ?_
  rintro e w8 ⟨rfl, hB9⟩
  rw [show fineB ⟨3, 2, 0, 2, true⟩ = true by decide +kernel]
  go_wp2_with fail
  refine (fine_any ⟨0, 0, 0, 0, false⟩ w8).mono ?_
  rintro e w9 ⟨rfl, hB10⟩
  rw [show fineB ⟨0, 0, 0, 0, false⟩ = false by decide +kernel]
  go_wp2
  go_returns
  exact ⟨rfl, bTr hB6 (bTr hB8 (bTr hB9 hB10))⟩
end Go.Proofs.YtefpagijgiggmaaDoor
