/- The walks of entries and states: which may be, by the reference. -/
import Derived.Test.YtoehcmddfpompaaEntWb
namespace Go.Proofs.Ytoehcmddfpompaa
open Go Go.RowKit

set_option maxHeartbeats 4000000 in
theorem fineR_any (s : St) (w : World) : Calls Try.prog 6 #[s.v] w fun e' w' => e' = .returned (.bool (fineB s)) ∧ Below w.heap.size w w' := by
  have Hr := Lib.hid (fineB_iff s)
  generalize fineB s = fb at *
  obtain ⟨a1, a2, a3, a4, a5⟩ := s
  dsimp only [St.v]
  cases n1 : numB a1
  · go_enter Try.func6, Try.ntmps6
    go_wp2_with (go_at_call 17; refine (numberR_any _ _).mono ?_; rintro e w' ⟨rfl, rfl⟩)
    go_ret
    refine ⟨ret_bool ?_, (Below.refl _ _).alloc (Nat.le_refl _) _⟩
    rw [Bool.eq_iff_iff, Hr.out]
    clear Hr
    unfold FineP firstS
    simp [numB] at *
    try omega
  cases n2 : numB a2
  · go_enter Try.func6, Try.ntmps6
    go_wp2_with (go_at_call 17; refine (numberR_any _ _).mono ?_; rintro e w' ⟨rfl, rfl⟩)
    go_ret
    refine ⟨ret_bool ?_, (Below.refl _ _).alloc (Nat.le_refl _) _⟩
    rw [Bool.eq_iff_iff, Hr.out]
    clear Hr
    unfold FineP firstS
    simp [numB] at *
    try omega
  cases n3 : numB a3
  · go_enter Try.func6, Try.ntmps6
    go_wp2_with (go_at_call 17; refine (numberR_any _ _).mono ?_; rintro e w' ⟨rfl, rfl⟩)
    go_ret
    refine ⟨ret_bool ?_, (Below.refl _ _).alloc (Nat.le_refl _) _⟩
    rw [Bool.eq_iff_iff, Hr.out]
    clear Hr
    unfold FineP firstS
    simp [numB] at *
    try omega
  by_cases h1 : a1 = 0 <;> by_cases h2 : a2 = 0
  · subst h1; subst h2
    by_cases l1 : a4 = 1
    · subst l1
      cases a5
      · go_enter Try.func6, Try.ntmps6
        go_wp2_with (go_at_call 17; refine (numberR_any _ _).mono ?_; rintro e w' ⟨rfl, rfl⟩)
        refine region_calmB 9 ⟨by kernel_rfl, by kernel_rfl⟩ (fun HB => ?_)
        refine' wpAnyM_lights [true, true, true, true, true] 55 _ (by decide +kernel) rfl (fun W hW => ?_) ?_
        rotate_left
        · obtain ⟨hcW, hfW⟩ := bCells (bTr HB hW)
          dsimp only [pickL]
          go_wp2
          exact Lend.ok
        refine wpAnyM_call [false, false, false, false, false, true] 5 ⟨by decide, by kernel_rfl, rfl, rfl⟩ (fun W hW => ?_)
        dsimp only [pickL]
        go_wp2_with fail
        refine (firstR_any _).mono ?_
        dsimp only [firstS, St.v]
        rintro e w2 ⟨rfl, hB⟩
        go_wp2
        replace HB := bTr (bTr HB hW) hB
        refine' wpAnyM_lights [false, false, false, false, false, false, true, true, true] 55 _ (by decide +kernel) rfl (fun W hW => ?_) ?_
        rotate_left
        · obtain ⟨hcW, hfW⟩ := bCells (bTr HB hW)
          have he := eqS
          dsimp only [pickL]
          go_wp2
          exact Lend.ok
        refine region_calm_end (by kernel_rfl) (fun W hW => ?_)
        replace HB := bTr HB hW
        go_wp2
        go_ret
        refine ⟨ret_bool ?_, bTr ((Below.refl _ _).alloc (Nat.le_refl _) _) HB⟩
        rw [Bool.eq_iff_iff, Hr.out]
        clear Hr HB
        unfold FineP firstS
        simp [numB] at *
        try omega
      · go_enter Try.func6, Try.ntmps6
        go_wp2_with (go_at_call 17; refine (numberR_any _ _).mono ?_; rintro e w' ⟨rfl, rfl⟩)
        go_ret
        refine ⟨ret_bool ?_, (Below.refl _ _).alloc (Nat.le_refl _) _⟩
        rw [Bool.eq_iff_iff, Hr.out]
        clear Hr
        unfold FineP firstS
        simp [numB] at *
        try omega
    · by_cases l2 : a4 = 2
      · subst l2
        cases a5
        · go_enter Try.func6, Try.ntmps6
          go_wp2_with (go_at_call 17; refine (numberR_any _ _).mono ?_; rintro e w' ⟨rfl, rfl⟩)
          refine region_calmB 9 ⟨by kernel_rfl, by kernel_rfl⟩ (fun HB => ?_)
          refine' wpAnyM_lights [true, true, true, true, true] 55 _ (by decide +kernel) rfl (fun W hW => ?_) ?_
          rotate_left
          · obtain ⟨hcW, hfW⟩ := bCells (bTr HB hW)
            dsimp only [pickL]
            go_wp2
            exact Lend.ok
          refine wpAnyM_call [false, false, false, false, false, true] 5 ⟨by decide, by kernel_rfl, rfl, rfl⟩ (fun W hW => ?_)
          dsimp only [pickL]
          go_wp2_with fail
          refine (firstR_any _).mono ?_
          dsimp only [firstS, St.v]
          rintro e w2 ⟨rfl, hB⟩
          go_wp2
          replace HB := bTr (bTr HB hW) hB
          refine' wpAnyM_lights [false, false, false, false, false, false, true, true, true] 55 _ (by decide +kernel) rfl (fun W hW => ?_) ?_
          rotate_left
          · obtain ⟨hcW, hfW⟩ := bCells (bTr HB hW)
            have he := eqS
            dsimp only [pickL]
            go_wp2
            exact Lend.ok
          refine region_calm_end (by kernel_rfl) (fun W hW => ?_)
          replace HB := bTr HB hW
          go_wp2
          go_ret
          refine ⟨ret_bool ?_, bTr ((Below.refl _ _).alloc (Nat.le_refl _) _) HB⟩
          rw [Bool.eq_iff_iff, Hr.out]
          clear Hr HB
          unfold FineP firstS
          simp [numB] at *
          try omega
        · go_enter Try.func6, Try.ntmps6
          go_wp2_with (go_at_call 17; refine (numberR_any _ _).mono ?_; rintro e w' ⟨rfl, rfl⟩)
          refine region_calmB 9 ⟨by kernel_rfl, by kernel_rfl⟩ (fun HB => ?_)
          refine' wpAnyM_lights [true, true, true, true, true] 55 _ (by decide +kernel) rfl (fun W hW => ?_) ?_
          rotate_left
          · obtain ⟨hcW, hfW⟩ := bCells (bTr HB hW)
            dsimp only [pickL]
            go_wp2
            exact Lend.ok
          refine wpAnyM_call [false, false, false, false, false, true] 5 ⟨by decide, by kernel_rfl, rfl, rfl⟩ (fun W hW => ?_)
          dsimp only [pickL]
          go_wp2_with fail
          refine (firstR_any _).mono ?_
          dsimp only [firstS, St.v]
          rintro e w2 ⟨rfl, hB⟩
          go_wp2
          replace HB := bTr (bTr HB hW) hB
          refine' wpAnyM_lights [false, false, false, false, false, false, true, true, true] 55 _ (by decide +kernel) rfl (fun W hW => ?_) ?_
          rotate_left
          · obtain ⟨hcW, hfW⟩ := bCells (bTr HB hW)
            have he := eqS
            dsimp only [pickL]
            go_wp2
            exact Lend.ok
          refine region_calm_end (by kernel_rfl) (fun W hW => ?_)
          replace HB := bTr HB hW
          go_wp2
          go_ret
          refine ⟨ret_bool ?_, bTr ((Below.refl _ _).alloc (Nat.le_refl _) _) HB⟩
          rw [Bool.eq_iff_iff, Hr.out]
          clear Hr HB
          unfold FineP firstS
          simp [numB] at *
          try omega
      · go_enter Try.func6, Try.ntmps6
        go_wp2_with (go_at_call 17; refine (numberR_any _ _).mono ?_; rintro e w' ⟨rfl, rfl⟩)
        go_ret
        refine ⟨ret_bool ?_, (Below.refl _ _).alloc (Nat.le_refl _) _⟩
        rw [Bool.eq_iff_iff, Hr.out]
        clear Hr
        unfold FineP firstS
        simp [numB] at *
        try omega
  · subst h1
    go_enter Try.func6, Try.ntmps6
    go_wp2_with (go_at_call 17; refine (numberR_any _ _).mono ?_; rintro e w' ⟨rfl, rfl⟩)
    go_ret
    refine ⟨ret_bool ?_, (Below.refl _ _).alloc (Nat.le_refl _) _⟩
    rw [Bool.eq_iff_iff, Hr.out]
    clear Hr
    unfold FineP firstS
    simp [numB] at *
    try omega
  · subst h2
    go_enter Try.func6, Try.ntmps6
    go_wp2_with (go_at_call 17; refine (numberR_any _ _).mono ?_; rintro e w' ⟨rfl, rfl⟩)
    go_ret
    refine ⟨ret_bool ?_, (Below.refl _ _).alloc (Nat.le_refl _) _⟩
    rw [Bool.eq_iff_iff, Hr.out]
    clear Hr
    unfold FineP firstS
    simp [numB] at *
    try omega
  · have h0 : 0 < a1 := by simp [numB] at n1; omega
    have g1 : (a1 == 0) = false := by simpa using h1
    have g2 : (a2 == 0) = false := by simpa using h2
    by_cases l1 : a4 = 1
    · subst l1
      cases a5
      · go_enter Try.func6, Try.ntmps6
        go_wp2_with (go_at_call 17; refine (numberR_any _ _).mono ?_; rintro e w' ⟨rfl, rfl⟩)
        refine region_calmB 9 ⟨by kernel_rfl, by kernel_rfl⟩ (fun HB => ?_)
        refine' wpAnyM_lights [true, true, true, true, true] 55 _ (by decide +kernel) rfl (fun W hW => ?_) ?_
        rotate_left
        · obtain ⟨hcW, hfW⟩ := bCells (bTr HB hW)
          dsimp only [pickL]
          go_wp2
          exact Lend.ok
        refine wpAnyM_call [false, false, false, false, false, true] 5 ⟨by decide, by kernel_rfl, rfl, rfl⟩ (fun W hW => ?_)
        dsimp only [pickL]
        go_wp2_with fail
        go_wp2
        try (refine ⟨Below.refl _ _, ?_⟩)
        replace HB := bTr HB hW
        refine' wpAnyM_lights [false, false, false, false, false, false, true, true, true] 55 _ (by decide +kernel) rfl (fun W hW => ?_) ?_
        rotate_left
        · obtain ⟨hcW, hfW⟩ := bCells (bTr HB hW)
          dsimp only [pickL]
          go_wp2
          exact Lend.ok
        refine region_calm_end (by kernel_rfl) (fun W hW => ?_)
        replace HB := bTr HB hW
        go_wp2
        go_ret
        refine ⟨ret_bool ?_, bTr ((Below.refl _ _).alloc (Nat.le_refl _) _) HB⟩
        rw [Bool.eq_iff_iff, Hr.out]
        clear Hr HB
        unfold FineP firstS
        simp [numB] at *
        try omega
      · go_enter Try.func6, Try.ntmps6
        go_wp2_with (go_at_call 17; refine (numberR_any _ _).mono ?_; rintro e w' ⟨rfl, rfl⟩)
        go_ret
        refine ⟨ret_bool ?_, (Below.refl _ _).alloc (Nat.le_refl _) _⟩
        rw [Bool.eq_iff_iff, Hr.out]
        clear Hr
        unfold FineP firstS
        simp [numB] at *
        try omega
    · by_cases l2 : a4 = 2
      · subst l2
        cases a5
        · go_enter Try.func6, Try.ntmps6
          go_wp2_with (go_at_call 17; refine (numberR_any _ _).mono ?_; rintro e w' ⟨rfl, rfl⟩)
          refine region_calmB 9 ⟨by kernel_rfl, by kernel_rfl⟩ (fun HB => ?_)
          refine' wpAnyM_lights [true, true, true, true, true] 55 _ (by decide +kernel) rfl (fun W hW => ?_) ?_
          rotate_left
          · obtain ⟨hcW, hfW⟩ := bCells (bTr HB hW)
            dsimp only [pickL]
            go_wp2
            exact Lend.ok
          refine wpAnyM_call [false, false, false, false, false, true] 5 ⟨by decide, by kernel_rfl, rfl, rfl⟩ (fun W hW => ?_)
          dsimp only [pickL]
          go_wp2_with fail
          go_wp2
          try (refine ⟨Below.refl _ _, ?_⟩)
          replace HB := bTr HB hW
          refine' wpAnyM_lights [false, false, false, false, false, false, true, true, true] 55 _ (by decide +kernel) rfl (fun W hW => ?_) ?_
          rotate_left
          · obtain ⟨hcW, hfW⟩ := bCells (bTr HB hW)
            dsimp only [pickL]
            go_wp2
            exact Lend.ok
          refine region_calm_end (by kernel_rfl) (fun W hW => ?_)
          replace HB := bTr HB hW
          go_wp2
          go_ret
          refine ⟨ret_bool ?_, bTr ((Below.refl _ _).alloc (Nat.le_refl _) _) HB⟩
          rw [Bool.eq_iff_iff, Hr.out]
          clear Hr HB
          unfold FineP firstS
          simp [numB] at *
          try omega
        · go_enter Try.func6, Try.ntmps6
          go_wp2_with (go_at_call 17; refine (numberR_any _ _).mono ?_; rintro e w' ⟨rfl, rfl⟩)
          refine region_calmB 9 ⟨by kernel_rfl, by kernel_rfl⟩ (fun HB => ?_)
          refine' wpAnyM_lights [true, true, true, true, true] 55 _ (by decide +kernel) rfl (fun W hW => ?_) ?_
          rotate_left
          · obtain ⟨hcW, hfW⟩ := bCells (bTr HB hW)
            dsimp only [pickL]
            go_wp2
            exact Lend.ok
          refine wpAnyM_call [false, false, false, false, false, true] 5 ⟨by decide, by kernel_rfl, rfl, rfl⟩ (fun W hW => ?_)
          dsimp only [pickL]
          go_wp2_with fail
          go_wp2
          try (refine ⟨Below.refl _ _, ?_⟩)
          replace HB := bTr HB hW
          refine' wpAnyM_lights [false, false, false, false, false, false, true, true, true] 55 _ (by decide +kernel) rfl (fun W hW => ?_) ?_
          rotate_left
          · obtain ⟨hcW, hfW⟩ := bCells (bTr HB hW)
            dsimp only [pickL]
            go_wp2
            exact Lend.ok
          refine region_calm_end (by kernel_rfl) (fun W hW => ?_)
          replace HB := bTr HB hW
          go_wp2
          go_ret
          refine ⟨ret_bool ?_, bTr ((Below.refl _ _).alloc (Nat.le_refl _) _) HB⟩
          rw [Bool.eq_iff_iff, Hr.out]
          clear Hr HB
          unfold FineP firstS
          simp [numB] at *
          try omega
      · go_enter Try.func6, Try.ntmps6
        go_wp2_with (go_at_call 17; refine (numberR_any _ _).mono ?_; rintro e w' ⟨rfl, rfl⟩)
        go_ret
        refine ⟨ret_bool ?_, (Below.refl _ _).alloc (Nat.le_refl _) _⟩
        rw [Bool.eq_iff_iff, Hr.out]
        clear Hr
        unfold FineP firstS
        simp [numB] at *
        try omega
end Go.Proofs.Ytoehcmddfpompaa
