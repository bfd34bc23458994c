/- The walk of LevelAsks: all ways. -/
import Derived.Test.YtoehcmddfpompaaLevAsksA
import Derived.Test.YtoehcmddfpompaaLevAsksB1
import Derived.Test.YtoehcmddfpompaaLevAsksB2
import Derived.Test.YtoehcmddfpompaaLevAsksB3
import Derived.Test.YtoehcmddfpompaaLevAsksB4
import Derived.Test.YtoehcmddfpompaaLevAsksC
import Derived.Test.YtoehcmddfpompaaLevAsksD
namespace Go.Proofs.Ytoehcmddfpompaa
open Go Go.RowKit

theorem asks_bad (a1 a2 a3 a4 : Int) (a5 : Bool) (k : Int) (A : Option Addr) (n c : Nat) (w : World) (h : fineB ⟨a1, a2, a3, a4, a5⟩ = false ∨ 1073741824 ≤ a1 ∨ 40 < n) : Calls Try.prog 3 #[.agg #[.int .i64 a1, .int .i64 a2, .int .i64 a3, .int .i64 a4, .bool a5], .int .i64 k, .slice A n c] w fun e w' => e = .returned (.bool true) ∧ Below w.heap.size w w' := by
  have hs0 := Box5.new w ⟨a1, a2, a3, a4, a5⟩ 23
  have hBs : Below w.heap.size w (w.alloc (.cells #[.int .i64 a1, .int .i64 a2, .int .i64 a3, .int .i64 a4, .bool a5] 23)) := (Below.refl _ _).alloc (Nat.le_refl _) _
  dsimp only at hs0
  cases hf : fineB ⟨a1, a2, a3, a4, a5⟩ with
  | false =>
    go_enter Try.func3, Try.ntmps3
    go_wp2_with (first | (go_at_call 6; refine (fineR_any ⟨a1, a2, a3, a4, a5⟩ _).mono ?_; rintro e w1 ⟨rfl, hB1⟩; have hs1 := hs0.keep (keepT hB1) trivial; obtain ⟨⟨c0, c1, c2, c3, c4⟩, _⟩ := hs1; dsimp only at c0 c1 c2 c3 c4; rw [hf]) | (go_at_call 7; refine (wakes_any _).mono ?_; rintro e w2 ⟨rfl, hB2⟩))
    go_returns
    exact ⟨rfl, bTr hBs (bTr hB1 hB2)⟩
  | true =>
    by_cases hi : 1073741824 ≤ a1
    · go_enter Try.func3, Try.ntmps3
      go_wp2_with (first | (go_at_call 6; refine (fineR_any ⟨a1, a2, a3, a4, a5⟩ _).mono ?_; rintro e w1 ⟨rfl, hB1⟩; have hs1 := hs0.keep (keepT hB1) trivial; obtain ⟨⟨c0, c1, c2, c3, c4⟩, _⟩ := hs1; dsimp only at c0 c1 c2 c3 c4; rw [hf]) | (go_at_call 7; refine (wakes_any _).mono ?_; rintro e w2 ⟨rfl, hB2⟩))
      go_returns
      exact ⟨rfl, bTr hBs (bTr hB1 hB2)⟩
    · have h40 : 40 < n := by simp [hf] at h; omega
      go_enter Try.func3, Try.ntmps3
      go_wp2_with (first | (go_at_call 6; refine (fineR_any ⟨a1, a2, a3, a4, a5⟩ _).mono ?_; rintro e w1 ⟨rfl, hB1⟩; have hs1 := hs0.keep (keepT hB1) trivial; obtain ⟨⟨c0, c1, c2, c3, c4⟩, _⟩ := hs1; dsimp only at c0 c1 c2 c3 c4; rw [hf]) | (go_at_call 7; refine (wakes_any _).mono ?_; rintro e w2 ⟨rfl, hB2⟩))
      go_returns
      exact ⟨rfl, bTr hBs (bTr hB1 hB2)⟩
theorem asks_all (s : St) (k : Int) (A : Option Addr) (n c : Nat) (l : List Int) (hn : l.length = n) (w : World) (hA : Rd w A (ivs l)) :
    Calls Try.prog 3 #[s.v, .int .i64 k, .slice A n c] w fun e w' => e = .returned (.bool true) ∧ Below w.heap.size w w' := by
  obtain ⟨a1, a2, a3, a4, a5⟩ := s
  dsimp only [St.v]
  by_cases hb : fineB ⟨a1, a2, a3, a4, a5⟩ = false ∨ 1073741824 ≤ a1 ∨ 40 < n
  · exact asks_bad a1 a2 a3 a4 a5 k A n c w hb
  · simp only [not_or, Bool.not_eq_false] at hb
    obtain ⟨hf, hi, h40⟩ := hb
    have hF := (fineB_iff _).1 hf
    have ht : (a2 < 1 ∧ max a2 1 = 1) ∨ (1 ≤ a2 ∧ a2 = max a2 1) := by omega
    have h12 := hF
    have hv : (a4 = 1 ∨ a4 = 2) ∧ (a5 = true → a4 = 2) ∧ a2 ≤ 1073741824 := by
      rcases hF with h | h
      · injection h with _ h2 _ h4 h5
        subst h2 h4 h5
        simp
      · exact ⟨h.2.2.2.2.2.2.1, h.2.2.2.2.2.2.2, h.2.2.2.1⟩
    have h1 : 1 ≤ max a2 1 := by omega
    have h2 : max a2 1 ≤ 1073741824 := by omega
    by_cases hk : 1 ≤ k ∧ k ≤ 4
    · have hr : rightB ⟨max a2 1, k, 0⟩ = true := by simp [rightB]; omega
      have hX : entryL k 0 (max a2 1) = (⟨max a2 1, k, 0⟩, 0) := if_pos hr
      have hN := next_right ⟨a1, a2, a3, a4, a5⟩ ⟨max a2 1, k, 0⟩ hF (by simpa using hi) hr
      have hk4 : k = 1 ∨ k = 2 ∨ k = 3 ∨ k = 4 := by omega
      rcases hk4 with rfl | rfl | rfl | rfl
      · exact asks_ok1 a1 a2 a3 a4 a5 1 _ ht A n c l hn w hA hf (by omega) (by omega) h1 h2 rfl _ _ _ _ _ _ hX hN rfl rfl
      · cases hkn : knownB l with
        | true => exact asks_ok2 a1 a2 a3 a4 a5 2 _ ht A n c l hn w hA hf (by omega) (by omega) h1 h2 (by simp [checkS, hkn]) _ _ _ _ _ _ hX hN rfl rfl
        | false => exact asks_caps a1 a2 a3 a4 a5 2 _ ht A n c l hn w hA hf (by omega) (by omega) h1 h2 (by simp [checkS, hkn]) _ _ _ _ _ _ hX hN rfl hkn
      · cases a5
        · exact asks_ok3 a1 a2 a3 a4 false 3 _ ht A n c l hn w hA hf (by omega) (by omega) h1 h2 rfl _ _ _ _ _ _ hX hN rfl rfl
        · exact asks_keep a1 a2 a3 a4 true 3 _ ht A n c l hn w hA hf (by omega) (by omega) h1 h2 222 rfl (.inl rfl) _ _ _ _ _ _ hX hN (.inl rfl) rfl rfl
      · cases a5
        · by_cases h4 : a4 = 2
          · subst h4
            exact asks_ok4 a1 a2 a3 2 false 4 _ ht A n c l hn w hA hf (by omega) (by omega) h1 h2 rfl _ _ _ _ _ _ hX hN rfl rfl
          · exact asks_keep a1 a2 a3 a4 false 4 _ ht A n c l hn w hA hf (by omega) (by omega) h1 h2 223 (by simp [checkS, h4]) (.inr rfl) _ _ _ _ _ _ hX hN (.inr rfl) rfl (by simp [h4])
        · obtain rfl := hv.2.1 rfl
          exact asks_keep a1 a2 a3 2 true 4 _ ht A n c l hn w hA hf (by omega) (by omega) h1 h2 222 rfl (.inl rfl) _ _ _ _ _ _ hX hN (.inr rfl) rfl rfl
    · have hE : checkS k ⟨a1, a2, a3, a4, a5⟩ l = 2 := by unfold checkS; rw [if_neg (by omega), if_neg (by omega), if_neg (by omega), if_neg (by omega)]
      by_cases hk0 : k = 0
      · subst hk0
        have hr : rightB ⟨max a2 1, 0, 0⟩ = true := by simp [rightB]; omega
        exact asks_none a1 a2 a3 a4 a5 0 _ ht A n c l hn w hA hf (by omega) (by omega) h1 h2 hE _ _ (if_pos hr) (.inr (.inr ⟨rfl, rfl⟩))
      · have hr : rightB ⟨max a2 1, k, 0⟩ = false := by simp [rightB]; omega
        have hX : entryL k 0 (max a2 1) = (⟨0, 0, 0⟩, 2) := if_neg (by simp [hr])
        rcases Int.lt_or_le k 0 with h | h
        · exact asks_none a1 a2 a3 a4 a5 k _ ht A n c l hn w hA hf (by omega) (by omega) h1 h2 hE _ _ hX (.inl ⟨h, rfl⟩)
        · exact asks_none a1 a2 a3 a4 a5 k _ ht A n c l hn w hA hf (by omega) (by omega) h1 h2 hE _ _ hX (.inr (.inl ⟨by omega, rfl⟩))
end Go.Proofs.Ytoehcmddfpompaa
