/- The walk of LevelAsks, part A. -/
import Derived.Test.YtoehcmddfpompaaLevWf
import Derived.Test.YtoehcmddfpompaaEntRn
import Derived.Test.YtoehcmddfpompaaEntFinePl
import Derived.Deep.DeepCutAuto
namespace Go.Proofs.Ytoehcmddfpompaa
open Go Go.RowKit

set_option maxRecDepth 100000 in
set_option maxHeartbeats 8000000 in
theorem asks_none (a1 a2 a3 a4 : Int) (a5 : Bool) (k t : Int) (ht : (a2 < 1 ∧ t = 1) ∨ (1 ≤ a2 ∧ a2 = t)) (A : Option Addr) (n c : Nat) (l : List Int) (hn : l.length = n) (w : World) (hA : Rd w A (ivs l)) (hf : fineB ⟨a1, a2, a3, a4, a5⟩ = true) (hi : a1 < 1073741824) (h40 : n ≤ 40) (t1 : 1 ≤ t) (t2 : t ≤ 1073741824) (hE : checkS k ⟨a1, a2, a3, a4, a5⟩ l = 2) (x : En) (f : Int) (hX : entryL k 0 t = (x, f)) (hk : (k < 0 ∧ f = 2) ∨ (5 ≤ k ∧ f = 2) ∨ (k = 0 ∧ f = 0)) : Calls Try.prog 3 #[.agg #[.int .i64 a1, .int .i64 a2, .int .i64 a3, .int .i64 a4, .bool a5], .int .i64 k, .slice A n c] w fun e w' => e = .returned (.bool true) ∧ Below w.heap.size w w' := by
  have Hn := Lib.hid hn
  have hl : l.length ≤ 1099511627776 := by omega
  have hs0 := Box5.new w ⟨a1, a2, a3, a4, a5⟩ 23
  have hBs : Below w.heap.size w (w.alloc (.cells #[.int .i64 a1, .int .i64 a2, .int .i64 a3, .int .i64 a4, .bool a5] 23)) := (Below.refl _ _).alloc (Nat.le_refl _) _
  dsimp only at hs0
  clear hn
  go_enter Try.func3, Try.ntmps3
  go_wp2_with fail
  refine (fineR_any ⟨a1, a2, a3, a4, a5⟩ _).mono ?_
  rintro e w1 ⟨rfl, hB1⟩
  rw [hf]
  have hs1 := hs0.keep (keepT hB1) trivial
  have hB := bTr hBs hB1
  clear hs0 hB1 hBs
  have hs1' := hs1
  obtain ⟨⟨c0, c1, c2, c3, c4⟩, _⟩ := hs1'
  dsimp only at c0 c1 c2 c3 c4
  have hls := hs1.lt
  go_wp2_with fail
  refine (check_any k ⟨a1, a2, a3, a4, a5⟩ A n c l Hn.out hl w1 (hA.below hB)).mono ?_
  rintro e w2 ⟨rfl, hB2⟩
  rw [hE]
  replace hs1 := hs1.keep (keepT hB2) trivial
  replace hB := bTr hB hB2
  clear hB2 c0 c1 c2 c3 c4 hls
  have hs1' := hs1
  obtain ⟨⟨c0, c1, c2, c3, c4⟩, _⟩ := hs1'
  dsimp only at c0 c1 c2 c3 c4
  have hls := hs1.lt
  have HX := Lib.hid hX
  have HW := Lib.hid (show ∀ W, Calls Try.prog 9 #[.int .i64 k, .int .i64 0, .int .i64 t] W fun e w' => e = .returned (.tuple #[(entryL k 0 t).1.v, .int .i64 (entryL k 0 t).2]) ∧ Below W.heap.size W w' from fun W => entryL_any k 0 t W)
  rw [HX.out] at HW
  clear hX HX
  rcases ht with ⟨h2, rfl⟩ | ⟨h2, rfl⟩
  all_goals
    go_wp2_with fail
    refine (HW.out w2).mono ?_
    rintro e w3 ⟨rfl, hB3⟩
    dsimp only [En.v]
    replace hs1 := hs1.keep (keepT hB3) trivial
    replace hB := bTr hB hB3
    clear hB3 c0 c1 c2 c3 c4 hls
    obtain ⟨x1, x2, x3⟩ := x
    dsimp only [En.v]
    go_upto_region 5 with fail
    replace hB := hB.alloc hB.size (.cells #[.int .i64 x1, .int .i64 x2, .int .i64 x3] 30)
    generalize w3.alloc (.cells #[.int .i64 x1, .int .i64 x2, .int .i64 x3] 30) = w4 at *
    rcases hk with ⟨hk, rfl⟩ | ⟨hk, rfl⟩ | ⟨rfl, rfl⟩
    · have k0 : (k == 0) = false := by simp; omega
      go_wp2_with (go_at_call 7; refine (wakes_any _).mono ?_; rintro e w5 ⟨rfl, hB5⟩)
      go_returns
      exact ⟨rfl, bTr hB hB5⟩
    · have k0 : (k == 0) = false := by simp; omega
      have k1 : 0 ≤ k := by omega
      go_wp2_with (go_at_call 7; refine (wakes_any _).mono ?_; rintro e w5 ⟨rfl, hB5⟩)
      go_returns
      exact ⟨rfl, bTr hB hB5⟩
    · go_wp2_with (go_at_call 7; refine (wakes_any _).mono ?_; rintro e w5 ⟨rfl, hB5⟩)
      go_returns
      exact ⟨rfl, bTr hB hB5⟩

end Go.Proofs.Ytoehcmddfpompaa
