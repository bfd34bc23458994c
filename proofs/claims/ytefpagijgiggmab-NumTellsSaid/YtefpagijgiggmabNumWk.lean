/- The walks of numbers: rows of numbers held against each other, and what wakes. -/
import Derived.Test.YtefpagijgiggmabNumWj
import Derived.Test.YtefpagijgiggmabNumInts
namespace Go.Proofs.Ytefpagijgiggmab
open Go Go.RowKit

theorem same_n (A B : Option Addr) (n k c d : Nat) (l m : List UInt8) (hn : l.length = n) (hk : m.length = k) (w : World) (hA : Rd w A (bvs l)) (hB : Rd w B (bvs m)) :
    Calls Try.prog 11 #[.slice A n c, .slice B k d] w fun e w' => e = .returned (.bool (decide (l = m))) ∧ w' = w := by
  subst hn hk; exact same_any A B c d l m w hA hB
theorem takes_n (A : Option Addr) (n c : Nat) (b : List UInt8) (hn : b.length = n) (m : Int) (hm : m ≤ 1000000) (hl : b.length ≤ 1000000) (w : World) (hA : Rd w A (bvs b)) (hlc : b.length ≤ c) (hcm : c ≤ maxLen) :
    Calls Try.prog 12 #[.slice A n c, .int .i64 m] w fun e w' => ∃ v u, e = .returned (.tuple #[v, u, .int .i64 (tksN b m.toNat).2.2]) ∧
      w'.ownsRow w.heap.size 3 1 v (tksN b m.toNat).1.length (ivs (tksN b m.toNat).1) ∧ w'.ownsRow w.heap.size 5 1 u (tksN b m.toNat).2.1.length (bvs (tksN b m.toNat).2.1) ∧ Below w.heap.size w w' := by
  subst hn; exact takes_any A c b m hm hl w hA hlc hcm

set_option maxRecDepth 100000 in
set_option maxHeartbeats 4000000 in
theorem wakes_any (w : World) : Calls Try.prog 8 #[] w fun e w' => e = .returned (.bool true) ∧ Below w.heap.size w w' := by
  have hB := Below.refl w.heap.size w
  go_enter Try.func8, Try.ntmps8
  go_wp2_with fail
  have hl1 := Rd.new w (ivs [300]) 3
  replace hB := hB.alloc hB.size (.cells (ivs [300]).toArray 3)
  refine (short_any _ 1 1 [300] rfl (by simp) _ hl1).mono ?_
  rintro e w1 ⟨v1, rfl, ho1, hg1⟩
  rw [show errN [300] = 0 by decide +kernel]
  rw [show shortR [300] = [130, 44] by decide +kernel] at ho1
  replace hB := bTr hB hg1
  obtain ⟨Aa, ca, rfl, _⟩ := own_slice ho1
  have hra := Rd.of_own ho1
  clear ho1
  go_wp2_with fail
  have hl2 := Rd.new w1 (ivs [300]) 3
  replace hB := hB.alloc hB.size (.cells (ivs [300]).toArray 3)
  refine (long_any _ 1 1 [300] rfl (by simp) _ hl2).mono ?_
  rintro e w2 ⟨v2, rfl, ho2, hg2⟩
  rw [show errN [300] = 0 by decide +kernel]
  rw [show longR [300] = [0, 0, 0, 1, 44] by decide +kernel] at ho2
  replace hB := bTr hB hg2
  replace hra := (hra.below ((Below.refl _ _).alloc (Nat.le_refl _) (.cells (ivs [300]).toArray 3))).below hg2
  obtain ⟨Ab, cb, rfl, _⟩ := own_slice ho2
  have hrb := Rd.of_own ho2
  clear ho2
  go_wp2_with fail
  have hl3 := Rd.new w2 (bvs [130, 44, 9]) 5
  replace hB := hB.alloc hB.size (.cells (bvs [130, 44, 9]).toArray 5)
  refine (take_n _ 3 3 [130, 44, 9] rfl (by simp) _ hl3 (by simp) (by decide)).mono ?_
  rintro e w3 ⟨v3, rfl, ho3, hg3⟩
  rw [show tkN [130, 44, 9] = (300, [9], 0) by decide +kernel]
  rw [show tkN [130, 44, 9] = (300, [9], 0) by decide +kernel] at ho3
  replace hB := bTr hB hg3
  replace hra := (hra.below ((Below.refl _ _).alloc (Nat.le_refl _) (.cells (bvs [130, 44, 9]).toArray 5))).below hg3
  replace hrb := (hrb.below ((Below.refl _ _).alloc (Nat.le_refl _) (.cells (bvs [130, 44, 9]).toArray 5))).below hg3
  obtain ⟨Ac, cc, rfl, _⟩ := own_slice ho3
  have hrc := Rd.of_own ho3
  clear ho3
  go_wp2_with fail
  have hl4 := Rd.new w3 (bvs [128, 1]) 5
  replace hB := hB.alloc hB.size (.cells (bvs [128, 1]).toArray 5)
  refine (take_n _ 2 2 [128, 1] rfl (by simp) _ hl4 (by simp) (by decide)).mono ?_
  rintro e w4 ⟨v4, rfl, ho4, hg4⟩
  rw [show tkN [128, 1] = (0, [], 11) by decide +kernel]
  replace hB := bTr hB hg4
  replace hra := (hra.below ((Below.refl _ _).alloc (Nat.le_refl _) (.cells (bvs [128, 1]).toArray 5))).below hg4
  replace hrb := (hrb.below ((Below.refl _ _).alloc (Nat.le_refl _) (.cells (bvs [128, 1]).toArray 5))).below hg4
  replace hrc := (hrc.below ((Below.refl _ _).alloc (Nat.le_refl _) (.cells (bvs [128, 1]).toArray 5))).below hg4
  go_wp2_with fail
  have hl5 := Rd.new w4 (bvs [130]) 5
  replace hB := hB.alloc hB.size (.cells (bvs [130]).toArray 5)
  refine (take_n _ 1 1 [130] rfl (by simp) _ hl5 (by simp) (by decide)).mono ?_
  rintro e w5 ⟨v5, rfl, ho5, hg5⟩
  rw [show tkN [130] = (0, [], 10) by decide +kernel]
  replace hB := bTr hB hg5
  replace hra := (hra.below ((Below.refl _ _).alloc (Nat.le_refl _) (.cells (bvs [130]).toArray 5))).below hg5
  replace hrb := (hrb.below ((Below.refl _ _).alloc (Nat.le_refl _) (.cells (bvs [130]).toArray 5))).below hg5
  replace hrc := (hrc.below ((Below.refl _ _).alloc (Nat.le_refl _) (.cells (bvs [130]).toArray 5))).below hg5
  go_wp2_with fail
  have hl6 := Rd.new w5 (ivs [-1]) 3
  replace hB := hB.alloc hB.size (.cells (ivs [-1]).toArray 3)
  refine (short_any _ 1 1 [-1] rfl (by simp) _ hl6).mono ?_
  rintro e w6 ⟨v6, rfl, ho6, hg6⟩
  rw [show errN [-1] = 2 by decide +kernel]
  replace hB := bTr hB hg6
  replace hra := (hra.below ((Below.refl _ _).alloc (Nat.le_refl _) (.cells (ivs [-1]).toArray 3))).below hg6
  replace hrb := (hrb.below ((Below.refl _ _).alloc (Nat.le_refl _) (.cells (ivs [-1]).toArray 3))).below hg6
  replace hrc := (hrc.below ((Below.refl _ _).alloc (Nat.le_refl _) (.cells (ivs [-1]).toArray 3))).below hg6
  go_wp2_with fail
  have hl7 := Rd.new w6 (bvs [7, 8]) 5
  replace hB := hB.alloc hB.size (.cells (bvs [7, 8]).toArray 5)
  refine (takes_n _ 2 2 [7, 8] rfl 2 (by omega) (by simp) _ hl7 (by simp) (by decide)).mono ?_
  rintro e w7 ⟨v7, u7, rfl, ho7, hp7, hg7⟩
  rw [show (tksN [7, 8] (Int.toNat 2)) = ([7, 8], [], 0) by decide +kernel]
  rw [show (tksN [7, 8] (Int.toNat 2)) = ([7, 8], [], 0) by decide +kernel] at ho7
  replace hB := bTr hB hg7
  replace hra := (hra.below ((Below.refl _ _).alloc (Nat.le_refl _) (.cells (bvs [7, 8]).toArray 5))).below hg7
  replace hrb := (hrb.below ((Below.refl _ _).alloc (Nat.le_refl _) (.cells (bvs [7, 8]).toArray 5))).below hg7
  replace hrc := (hrc.below ((Below.refl _ _).alloc (Nat.le_refl _) (.cells (bvs [7, 8]).toArray 5))).below hg7
  obtain ⟨Ad, cd, rfl, _⟩ := own_slice ho7
  have hrd := Rd.of_own ho7
  clear ho7
  go_wp2_with fail
  have hl8 := Rd.new w7 (bvs [130, 44]) 5
  replace hB := hB.alloc hB.size (.cells (bvs [130, 44]).toArray 5)
  replace hra := hra.below ((Below.refl _ _).alloc (Nat.le_refl _) (.cells (bvs [130, 44]).toArray 5))
  replace hrb := hrb.below ((Below.refl _ _).alloc (Nat.le_refl _) (.cells (bvs [130, 44]).toArray 5))
  replace hrc := hrc.below ((Below.refl _ _).alloc (Nat.le_refl _) (.cells (bvs [130, 44]).toArray 5))
  replace hrd := hrd.below ((Below.refl _ _).alloc (Nat.le_refl _) (.cells (bvs [130, 44]).toArray 5))
  refine (same_n Aa _ 2 2 ca 2 [130, 44] [130, 44] rfl rfl _ hra hl8).mono ?_
  rintro e x8 ⟨rfl, hx⟩
  simp only [decide_true]
  replace hB : Below w.heap.size w x8 := by rw [hx]; exact hB
  replace hra := hra.to hx
  replace hrb := hrb.to hx
  replace hrc := hrc.to hx
  replace hrd := hrd.to hx
  clear hx
  go_wp2_with fail
  have hl9 := Rd.new x8 (bvs [0, 0, 0, 1, 44]) 5
  replace hB := hB.alloc hB.size (.cells (bvs [0, 0, 0, 1, 44]).toArray 5)
  replace hra := hra.below ((Below.refl _ _).alloc (Nat.le_refl _) (.cells (bvs [0, 0, 0, 1, 44]).toArray 5))
  replace hrb := hrb.below ((Below.refl _ _).alloc (Nat.le_refl _) (.cells (bvs [0, 0, 0, 1, 44]).toArray 5))
  replace hrc := hrc.below ((Below.refl _ _).alloc (Nat.le_refl _) (.cells (bvs [0, 0, 0, 1, 44]).toArray 5))
  replace hrd := hrd.below ((Below.refl _ _).alloc (Nat.le_refl _) (.cells (bvs [0, 0, 0, 1, 44]).toArray 5))
  refine (same_n Ab _ 5 5 cb 5 [0, 0, 0, 1, 44] [0, 0, 0, 1, 44] rfl rfl _ hrb hl9).mono ?_
  rintro e x9 ⟨rfl, hx⟩
  simp only [decide_true]
  replace hB : Below w.heap.size w x9 := by rw [hx]; exact hB
  replace hra := hra.to hx
  replace hrb := hrb.to hx
  replace hrc := hrc.to hx
  replace hrd := hrd.to hx
  clear hx
  go_wp2_with fail
  have hl10 := Rd.new x9 (bvs [9]) 5
  replace hB := hB.alloc hB.size (.cells (bvs [9]).toArray 5)
  replace hra := hra.below ((Below.refl _ _).alloc (Nat.le_refl _) (.cells (bvs [9]).toArray 5))
  replace hrb := hrb.below ((Below.refl _ _).alloc (Nat.le_refl _) (.cells (bvs [9]).toArray 5))
  replace hrc := hrc.below ((Below.refl _ _).alloc (Nat.le_refl _) (.cells (bvs [9]).toArray 5))
  replace hrd := hrd.below ((Below.refl _ _).alloc (Nat.le_refl _) (.cells (bvs [9]).toArray 5))
  refine (same_n Ac _ 1 1 cc 1 [9] [9] rfl rfl _ hrc hl10).mono ?_
  rintro e x10 ⟨rfl, hx⟩
  simp only [decide_true]
  replace hB : Below w.heap.size w x10 := by rw [hx]; exact hB
  replace hra := hra.to hx
  replace hrb := hrb.to hx
  replace hrc := hrc.to hx
  replace hrd := hrd.to hx
  clear hx
  go_wp2_with fail
  have hl11 := Rd.new x10 (ivs [7, 8]) 3
  replace hB := hB.alloc hB.size (.cells (ivs [7, 8]).toArray 3)
  replace hra := hra.below ((Below.refl _ _).alloc (Nat.le_refl _) (.cells (ivs [7, 8]).toArray 3))
  replace hrb := hrb.below ((Below.refl _ _).alloc (Nat.le_refl _) (.cells (ivs [7, 8]).toArray 3))
  replace hrc := hrc.below ((Below.refl _ _).alloc (Nat.le_refl _) (.cells (ivs [7, 8]).toArray 3))
  replace hrd := hrd.below ((Below.refl _ _).alloc (Nat.le_refl _) (.cells (ivs [7, 8]).toArray 3))
  refine (ints_any Ad _ 2 2 cd 2 [7, 8] [7, 8] rfl rfl (by omega) _ hrd hl11).mono ?_
  rintro e y ⟨rfl, hy⟩
  simp only [decide_true]
  replace hB := bTr hB hy
  go_wp2_with fail
  have hl12 := Rd.new y (ivs [0, 1073741824]) 3
  replace hB := hB.alloc hB.size (.cells (ivs [0, 1073741824]).toArray 3)
  refine (is_any _ 2 2 [0, 1073741824] rfl (by simp) _ hl12).mono ?_
  rintro e z12 ⟨rfl, hx⟩
  replace hB : Below w.heap.size w z12 := by rw [hx]; exact hB
  clear hx
  rw [show isN [0, 1073741824] = true by decide +kernel]
  go_wp2_with fail
  have hl13 := Rd.new z12 (ivs [1073741825]) 3
  replace hB := hB.alloc hB.size (.cells (ivs [1073741825]).toArray 3)
  refine (is_any _ 1 1 [1073741825] rfl (by simp) _ hl13).mono ?_
  rintro e z13 ⟨rfl, hx⟩
  replace hB : Below w.heap.size w z13 := by rw [hx]; exact hB
  clear hx
  rw [show isN [1073741825] = false by decide +kernel]
  go_wp2
  go_returns
  exact ⟨rfl, hB⟩
end Go.Proofs.Ytefpagijgiggmab
