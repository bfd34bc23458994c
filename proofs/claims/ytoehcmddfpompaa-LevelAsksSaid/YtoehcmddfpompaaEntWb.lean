/- The walks of entries and states: which may be. -/
import Derived.Test.YtoehcmddfpompaaEntWa
import Derived.Test.YtoehcmddfpompaaEntEq
import Derived.Deep.DeepCutAuto
namespace Go.Proofs.Ytoehcmddfpompaa
open Go Go.RowKit

theorem rightR_any (e : En) (w : World) : Calls Try.prog 13 #[e.v] w fun e' w' => e' = .returned (.bool (rightB e)) ∧ Below w.heap.size w w' := by
  have Hr := Lib.hid (show rightB e = decide (0 ≤ e.kind ∧ e.kind ≤ 4 ∧ 0 < e.term ∧ e.term ≤ 1073741824 ∧ 0 ≤ e.value ∧ e.value ≤ 1073741824 ∧ (e.value = 0 ∨ e.kind = 1)) from rfl)
  obtain ⟨t, k, v⟩ := e
  dsimp only [En.v]
  go_enter Try.func13, Try.ntmps13
  go_wp2_with (go_at_call 17; refine (numberR_any _ _).mono ?_; rintro e w' ⟨rfl, rfl⟩)
  all_goals
    go_ret
    refine ⟨ret_bool ?_, (Below.refl _ _).alloc (Nat.le_refl _) _⟩
    rw [Hr.out, Bool.eq_iff_iff]
    clear Hr
    simp [numB] at *
    try omega
theorem eqS (a1 a2 a3 a4 : Int) (a5 : Bool) (b1 b2 b3 b4 : Int) (b5 : Bool) (w : World) : (Op.equalIn 10000 23 (.agg #[.int .i64 a1, .int .i64 a2, .int .i64 a3, .int .i64 a4, .bool a5]) (.agg #[.int .i64 b1, .int .i64 b2, .int .i64 b3, .int .i64 b4, .bool b5])).run Try.prog w = .ok (decide ((⟨a1, a2, a3, a4, a5⟩ : St) = ⟨b1, b2, b3, b4, b5⟩)) w := run_eq_state w ⟨a1, a2, a3, a4, a5⟩ ⟨b1, b2, b3, b4, b5⟩

set_option maxHeartbeats 1000000 in
theorem fine_any (s : St) (w : World) : Calls Try.prog 39 #[s.v] w fun e' w' => e' = .returned (.bool (fineB s)) ∧ Below w.heap.size w w' := by
  have Hr := Lib.hid (fineB_iff s)
  generalize fineB s = fb at *
  by_cases h0 : s.index = 0
  · obtain ⟨a1, a2, a3, a4, a5⟩ := s
    dsimp only at h0
    subst h0
    dsimp only [St.v]
    go_enter Try.func39, Try.ntmps39
    go_wp2
    refine region_calmB 4 ⟨by kernel_rfl, by kernel_rfl⟩ (fun HB => ?_)
    refine' wpAnyM_lights [true] 64 _ (by decide +kernel) rfl (fun W hW => ?_) ?_
    rotate_left
    · obtain ⟨hcW, hfW⟩ := bCells (bTr HB hW)
      dsimp only [pickL]
      go_wp2
      exact Lend.ok
    refine wpAnyM_call [false, true] 1 ⟨by decide, by kernel_rfl, rfl, rfl⟩ (fun W hW => ?_)
    dsimp only [pickL]
    go_wp2_with fail
    refine (firstE_any _).mono ?_
    dsimp only [firstS, St.v]
    rintro e w2 ⟨rfl, hB⟩
    go_wp2
    replace HB := bTr (bTr HB hW) hB
    refine' wpAnyM_lights [false, false, true, true] 64 _ (by decide +kernel) rfl (fun W hW => ?_) ?_
    rotate_left
    · obtain ⟨hcW, hfW⟩ := bCells (bTr HB hW)
      have he := eqS
      dsimp only [pickL]
      go_wp2
      exact Lend.ok
    refine region_calm_end (by kernel_rfl) (fun W hW => ?_)
    replace HB := bTr HB hW
    go_wp2
    go_ret
    refine ⟨ret_bool ?_, bTr ((Below.refl _ _).alloc (Nat.le_refl _) _) HB⟩
    rw [Bool.eq_iff_iff, Hr.out]
    clear Hr HB hB
    unfold FineP firstS
    simp at *
    try (cases a5 <;> simp <;> try omega)
  · obtain ⟨a1, a2, a3, a4, a5⟩ := s
    dsimp only at h0
    dsimp only [St.v]
    go_enter Try.func39, Try.ntmps39
    go_wp2_with (go_at_call 30; refine (number_any _ _).mono ?_; rintro e w' ⟨rfl, rfl⟩)
    all_goals
      go_ret
      refine ⟨ret_bool ?_, (Below.refl _ _).alloc (Nat.le_refl _) _⟩
      rw [Bool.eq_iff_iff, Hr.out]
      clear Hr
      unfold FineP firstS
      simp [numB] at *
      try (cases a5 <;> simp at * <;> omega)

end Go.Proofs.Ytoehcmddfpompaa
