/- The walks of numbers: rows of numbers held against each other. -/
import Derived.Test.YtefpagijgiggmabElemI
namespace Go.Proofs.Ytefpagijgiggmab
open Go Go.RowKit

set_option maxHeartbeats 1000000 in
theorem ints_any (A B : Option Addr) (n m c d : Nat) (l k : List Int) (hl : l.length = n) (hk : k.length = m) (hn : n ≤ 1099511627776) (w : World) (hA : Rd w A (ivs l)) (hB : Rd w B (ivs k)) :
    Calls Try.prog 22 #[.slice A n c, .slice B m d] w fun e w' => e = .returned (.bool (decide (l = k))) ∧ Below w.heap.size w w' := by
  obtain ⟨res, hres⟩ : ∃ r, r = decide (l = k) := ⟨_, rfl⟩
  rw [← hres]
  have Hres := Lib.hid hres
  clear hres
  by_cases hnm : n = m
  · subst hnm
    go_enter Try.func22, Try.ntmps22
    go_wp2
    go_loopw [5] (fun i wr => ∃ q : Nat, q ≤ n ∧ i = .int .i64 q ∧ l.take q = k.take q ∧ Below w.heap.size w wr) (fun i _ => n - (intOf i).toNat)
    case atStart => exact ⟨0, by omega, rfl, rfl, Below.refl _ _⟩
    case round =>
      obtain ⟨q, hq, rfl, heq, hBw⟩ := hrel
      by_cases hlt : q < n
      · have h1 : l[q]? = some l[q] := List.getElem?_eq_getElem (by omega)
        have h2 : k[q]? = some k[q] := List.getElem?_eq_getElem (by omega)
        obtain ⟨b, o, rfl, hb, c1⟩ := (hA.below hBw) q _ (ivs_at h1)
        obtain ⟨b', o', rfl, hb', c2⟩ := (hB.below hBw) q _ (ivs_at h2)
        have Heq := Lib.hid heq
        clear heq
        have h3 := Lib.hid h1
        have h4 := Lib.hid h2
        clear h1 h2
        generalize l[q] = x at *
        generalize k[q] = y at *
        have t1 : (0 : Int) ≤ (q : Int) := by omega
        have t2 : (q : Int) < (n : Int) := by omega
        by_cases hxy : x = y
        · subst hxy
          go_wp2
          refine region_flow0 9 ⟨by kernel_rfl, by kernel_rfl⟩ (fun wf HB => ?_)
          refine' wpF_lights [true, true, true, true, true, true, true, true, true] 26 _ (by decide +kernel) rfl (fun W hW => ?_) ?_
          rotate_left
          · obtain ⟨hcW, hfW⟩ := bCells (bTr HB hW)
            dsimp only [pickL]
            go_wp2
            exact Lend.ok
          refine wpF_end (by kernel_rfl) ?_
          go_wp2
          go_roundw
          case rel => exact ⟨q + 1, by omega, by go_num, by rw [List.take_add_one, List.take_add_one, Heq.out, h3.out, h4.out], bTr hBw HB⟩
          case measure => simp [intOf]; omega
        · have hg : (x != y) = true := by simpa using hxy
          have Hx := Lib.hid hxy
          clear hxy
          go_wp2
          refine region_flow0 9 ⟨by kernel_rfl, by kernel_rfl⟩ (fun wf HB => ?_)
          refine' wpF_lights [true, true, true, true, true, true, true, true, true] 26 _ (by decide +kernel) rfl (fun W hW => ?_) ?_
          rotate_left
          · obtain ⟨hcW, hfW⟩ := bCells (bTr HB hW)
            dsimp only [pickL]
            go_wp2
            exact Lend.ok
          refine wpF_end (by kernel_rfl) ?_
          go_wp2
          go_ret
          refine ⟨ret_bool ?_, bTr hBw HB⟩
          rw [Hres.out]
          have : l ≠ k := by
            rintro rfl
            have e1 := h3.out
            rw [h4.out] at e1
            exact Hx.out (Option.some.inj e1).symm
          simp [this]
      · obtain rfl : q = n := by omega
        go_wp2
        go_ret
        refine ⟨ret_bool ?_, hBw⟩
        rw [Hres.out]
        rw [List.take_of_length_le (by omega), List.take_of_length_le (by omega)] at heq
        simp [heq]
  · have g : ((n : Int) != (m : Int)) = true := by simp; omega
    go_enter Try.func22, Try.ntmps22
    go_wp2
    go_ret
    refine ⟨ret_bool ?_, Below.refl _ _⟩
    rw [Hres.out]
    have : l ≠ k := by rintro rfl; omega
    simp [this]

end Go.Proofs.Ytefpagijgiggmab
