/- The walk of EntrySums. -/
import Derived.Test.YtefpagijgiggmaaDoorEntWi
import Derived.Test.YtefpagijgiggmaaDoorEntPl2
namespace Go.Proofs.YtefpagijgiggmaaDoor
open Go Go.RowKit

set_option maxRecDepth 100000 in
set_option maxHeartbeats 4000000 in
theorem sums_bad (s : St) (A : Option Addr) (n c : Nat) (q value : Int) (w : World) (hr : NamesOK w) (hb : n = 0 ∨ 3 < n ∨ fineB s = false ∨ 1073741624 < s.index ∨ value < 0 ∨ 999 < value) :
    Calls Tryd.prog 5 #[s.v, .slice A n c, .int .i64 q, .int .i64 value] w fun e w' => e = .returned (.bool true) ∧ Below w.heap.size w w' := by
  have hs0 := Box5.new w s 23
  have hBs : Below w.heap.size w (w.alloc (.cells #[.int .i64 s.index, .int .i64 s.term, .int .i64 s.sum, .int .i64 s.level, .bool s.final] 23)) := (Below.refl _ _).alloc (Nat.le_refl _) _
  have hr0 : NamesOK (w.alloc (.cells #[.int .i64 s.index, .int .i64 s.term, .int .i64 s.sum, .int .i64 s.level, .bool s.final] 23)) := hr.below hBs
  obtain ⟨a1, a2, a3, a4, a5⟩ := s
  dsimp only [St.v] at *
  by_cases h0 : n = 0
  · subst h0
    go_enter Tryd.func5, Tryd.ntmps5
    go_wp2_with (first | (go_at_call 7; refine (fineR_any ⟨a1, a2, a3, a4, a5⟩ _).mono ?_; rintro e w1 ⟨rfl, hB1⟩; have hz := hB1.size; have k1 := keepT hB1; have hs1 := hs0.keep k1 trivial; obtain ⟨⟨c0, c1, c2, c3, c4⟩, _⟩ := hs1; dsimp only at c0 c1 c2 c3 c4; have hr1 := hr.below (bTr hBs hB1); rw [hf]) | (go_at_call 8; refine (wakes_any _ (by assumption)).mono ?_; rintro e w2 ⟨rfl, hB2⟩))
    go_returns
    exact ⟨rfl, bTr hBs hB2⟩
  have g0 : ((n : Int) == 0) = false := by simp; omega
  by_cases h3 : 3 < n
  · go_enter Tryd.func5, Tryd.ntmps5
    go_wp2_with (first | (go_at_call 7; refine (fineR_any ⟨a1, a2, a3, a4, a5⟩ _).mono ?_; rintro e w1 ⟨rfl, hB1⟩; have hz := hB1.size; have k1 := keepT hB1; have hs1 := hs0.keep k1 trivial; obtain ⟨⟨c0, c1, c2, c3, c4⟩, _⟩ := hs1; dsimp only at c0 c1 c2 c3 c4; have hr1 := hr.below (bTr hBs hB1); rw [hf]) | (go_at_call 8; refine (wakes_any _ (by assumption)).mono ?_; rintro e w2 ⟨rfl, hB2⟩))
    go_returns
    exact ⟨rfl, bTr hBs hB2⟩
  cases hf : fineB ⟨a1, a2, a3, a4, a5⟩ with
  | false =>
    go_enter Tryd.func5, Tryd.ntmps5
    go_wp2_with (first | (go_at_call 7; refine (fineR_any ⟨a1, a2, a3, a4, a5⟩ _).mono ?_; rintro e w1 ⟨rfl, hB1⟩; have hz := hB1.size; have k1 := keepT hB1; have hs1 := hs0.keep k1 trivial; obtain ⟨⟨c0, c1, c2, c3, c4⟩, _⟩ := hs1; dsimp only at c0 c1 c2 c3 c4; have hr1 := hr.below (bTr hBs hB1); rw [hf]) | (go_at_call 8; refine (wakes_any _ (by assumption)).mono ?_; rintro e w2 ⟨rfl, hB2⟩))
    go_returns
    exact ⟨rfl, bTr hBs (bTr hB1 hB2)⟩
  | true =>
    by_cases hi : 1073741624 < a1
    · go_enter Tryd.func5, Tryd.ntmps5
      go_wp2_with (first | (go_at_call 7; refine (fineR_any ⟨a1, a2, a3, a4, a5⟩ _).mono ?_; rintro e w1 ⟨rfl, hB1⟩; have hz := hB1.size; have k1 := keepT hB1; have hs1 := hs0.keep k1 trivial; obtain ⟨⟨c0, c1, c2, c3, c4⟩, _⟩ := hs1; dsimp only at c0 c1 c2 c3 c4; have hr1 := hr.below (bTr hBs hB1); rw [hf]) | (go_at_call 8; refine (wakes_any _ (by assumption)).mono ?_; rintro e w2 ⟨rfl, hB2⟩))
      go_returns
      exact ⟨rfl, bTr hBs (bTr hB1 hB2)⟩
    by_cases hv : value < 0
    · go_enter Tryd.func5, Tryd.ntmps5
      go_wp2_with (first | (go_at_call 7; refine (fineR_any ⟨a1, a2, a3, a4, a5⟩ _).mono ?_; rintro e w1 ⟨rfl, hB1⟩; have hz := hB1.size; have k1 := keepT hB1; have hs1 := hs0.keep k1 trivial; obtain ⟨⟨c0, c1, c2, c3, c4⟩, _⟩ := hs1; dsimp only at c0 c1 c2 c3 c4; have hr1 := hr.below (bTr hBs hB1); rw [hf]) | (go_at_call 8; refine (wakes_any _ (by assumption)).mono ?_; rintro e w2 ⟨rfl, hB2⟩))
      go_returns
      exact ⟨rfl, bTr hBs (bTr hB1 hB2)⟩
    have hv9 : 999 < value := by simp [hf] at hb; omega
    go_enter Tryd.func5, Tryd.ntmps5
    go_wp2_with (first | (go_at_call 7; refine (fineR_any ⟨a1, a2, a3, a4, a5⟩ _).mono ?_; rintro e w1 ⟨rfl, hB1⟩; have hz := hB1.size; have k1 := keepT hB1; have hs1 := hs0.keep k1 trivial; obtain ⟨⟨c0, c1, c2, c3, c4⟩, _⟩ := hs1; dsimp only at c0 c1 c2 c3 c4; have hr1 := hr.below (bTr hBs hB1); rw [hf]) | (go_at_call 8; refine (wakes_any _ (by assumption)).mono ?_; rintro e w2 ⟨rfl, hB2⟩))
    go_returns
    exact ⟨rfl, bTr hBs (bTr hB1 hB2)⟩
end Go.Proofs.YtefpagijgiggmaaDoor
