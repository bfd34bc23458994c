/- The walks of entries and states: which may be. -/
import Derived.Test.YtoehcmddfpompaaRows
import Derived.Test.YtoehcmddfpompaaEntPl
import Derived.Test.YtoehcmddfpompaaMap
import Derived.Test.YtoehcmddfpompaaCalm8
namespace Go.Proofs.Ytoehcmddfpompaa
open Go Go.RowKit

theorem number_any (n : Int) (w : World) : Calls Try.prog 30 #[.int .i64 n] w fun e w' => e = .returned (.bool (numB n)) ∧ w = w' := by
  have H := Lib.hid (show numB n = decide (0 ≤ n ∧ n ≤ 1073741824) from rfl)
  go_enter Try.func30, Try.ntmps30
  go_wp2
  all_goals (go_ret; exact ⟨ret_bool (by rw [H.out]; simp; omega), rfl⟩)
theorem numberR_any (n : Int) (w : World) : Calls Try.prog 17 #[.int .i64 n] w fun e w' => e = .returned (.bool (numB n)) ∧ w = w' := by
  have H := Lib.hid (show numB n = decide (0 ≤ n ∧ n ≤ 1073741824) from rfl)
  go_enter Try.func17, Try.ntmps17
  go_wp2
  all_goals (go_ret; exact ⟨ret_bool (by rw [H.out]; simp; omega), rfl⟩)
theorem firstE_any (w : World) : Calls Try.prog 40 #[] w fun e w' => e = .returned firstS.v ∧ Below w.heap.size w w' := by
  go_enter Try.func40, Try.ntmps40
  go_wp2
  go_returns
  exact ⟨rfl, (Below.refl _ _).alloc (Nat.le_refl _) _⟩
theorem firstR_any (w : World) : Calls Try.prog 18 #[] w fun e w' => e = .returned firstS.v ∧ Below w.heap.size w w' := by
  go_enter Try.func18, Try.ntmps18
  go_wp2
  go_returns
  exact ⟨rfl, (Below.refl _ _).alloc (Nat.le_refl _) _⟩

/-- What kinds do, as the map has it. -/
def deedsL : List (Int × Value) := [(0, .func (.func 34) #[] #[]), (1, .func (.func 35) #[] #[]), (2, .func (.func 36) #[] #[]), (3, .func (.func 37) #[] #[]), (4, .func (.func 38) #[] #[])]
theorem deeds_any (w : World) : Calls Try.prog 29 #[] w fun e w' => ∃ r, e = .returned (.map (some r)) ∧ MapIs w' r deedsL ∧ Below w.heap.size w w' := by
  have hmm := @run_makeMap Try.prog
  go_enter Try.func29, Try.ntmps29
  go_wp2_with (refine list_insert rfl _ _ _ rfl Try.underlying57 Try.underlying3 (MapIs.made _) rfl _ rfl rfl ?_)
  intro w1 m1 k1
  refine list_insert rfl _ _ _ rfl Try.underlying57 Try.underlying3 m1 rfl _ rfl rfl ?_
  intro w2 m2 k2
  refine list_insert rfl _ _ _ rfl Try.underlying57 Try.underlying3 m2 rfl _ rfl rfl ?_
  intro w3 m3 k3
  refine list_insert rfl _ _ _ rfl Try.underlying57 Try.underlying3 m3 rfl _ rfl rfl ?_
  intro w4 m4 k4
  refine list_insert rfl _ _ _ rfl Try.underlying57 Try.underlying3 m4 rfl _ rfl rfl ?_
  intro w5 m5 k5
  go_wp2
  go_returns
  have hk := (((k1.trans (k2.sub fun _ _ h => h)).trans (k3.sub fun _ _ h => h)).trans (k4.sub fun _ _ h => h)).trans (k5.sub fun _ _ h => h)
  exact ⟨w.heap.size, rfl, m5, below_keep ((Below.refl _ _).alloc (Nat.le_refl _) _) hk (by simp) fun k hk => by omega⟩

theorem zero_fn (w : World) : (zeroValue 55).run Try.prog w = .ok .nilFunc w := by kernel_rfl
theorem look_deeds {w : World} {r : Nat} (h : MapIs w r deedsL) (k : Int) (ok : Bool) :
    (Instr.lookup 57 (.map (some r)) (.int .i64 k) ok).run Try.prog w = .ok (if ok then .tuple #[(mget deedsL k).getD .nilFunc, .bool (mget deedsL k).isSome] else (mget deedsL k).getD .nilFunc) w := run_lookup_map (P := Try.prog) (t := 57) Try.underlying57 Try.underlying3 zero_fn h k ok
theorem deeds_some (k : Int) : (mget deedsL k).isSome = decide (0 ≤ k ∧ k ≤ 4) := by
  unfold deedsL
  simp only [mget]
  repeat' split
  all_goals simp
  all_goals omega

set_option maxHeartbeats 1000000 in
theorem right_any (e : En) (w : World) : Calls Try.prog 21 #[e.v] w fun e' w' => e' = .returned (.bool (rightB e)) ∧ Below w.heap.size w w' := by
  have Hr := Lib.hid (show rightB e = decide (0 ≤ e.kind ∧ e.kind ≤ 4 ∧ 0 < e.term ∧ e.term ≤ 1073741824 ∧ 0 ≤ e.value ∧ e.value ≤ 1073741824 ∧ (e.value = 0 ∨ e.kind = 1)) from rfl)
  obtain ⟨t, k, v⟩ := e
  dsimp only [En.v]
  go_enter Try.func21, Try.ntmps21
  go_wp2
  obtain ⟨w1, hw1⟩ : ∃ w1, w1 = w.alloc (.cells #[.int .i64 t, .int .i64 k, .int .i64 v] 30) := ⟨_, rfl⟩
  have c0 : w1.cell? ⟨w.heap.size, 0, none⟩ = some (.int .i64 t) := by subst hw1; simp
  have c1 : w1.cell? ⟨w.heap.size, 1, none⟩ = some (.int .i64 k) := by subst hw1; simp
  have c2 : w1.cell? ⟨w.heap.size, 2, none⟩ = some (.int .i64 v) := by subst hw1; simp
  have hB1 : Below w.heap.size w w1 := by subst hw1; exact (Below.refl _ _).alloc (Nat.le_refl _) _
  have hb : w.heap.size < w1.heap.size := by subst hw1; simp
  rw [← hw1]
  clear hw1
  refine region_calmB 9 ⟨by kernel_rfl, by kernel_rfl⟩ (fun HB => ?_)
  refine' wpAnyM_lights [false, true, true] 38 _ (by decide +kernel) rfl (fun W hW => ?_) ?_
  rotate_left
  · obtain ⟨hcW, hfW⟩ := bCells (bTr HB hW)
    dsimp only [pickL]
    go_wp2
    exact Lend.ok
  refine wpAnyM_call [true] 0 ⟨by decide, by kernel_rfl, rfl, rfl⟩ (fun W hW => ?_)
  dsimp only [pickL]
  go_wp2_with fail
  refine (deeds_any _).mono ?_
  rintro e w2 ⟨r, rfl, hm, hB⟩
  go_wp2
  replace HB := bTr (bTr HB hW) hB
  refine wpAnyM_call [false, false, false, true] 3 ⟨by decide, by kernel_rfl, rfl, rfl⟩ (fun W hW => ?_)
  have hl := look_deeds (hm.below hW hm.lt) k true
  simp only [if_true, deeds_some] at hl
  dsimp only [pickL]
  go_wp2_with fail
  go_wp2
  try (refine ⟨Below.refl _ _, ?_⟩)
  replace HB := bTr HB hW
  refine' wpAnyM_lights [false, false, false, false, true, true, true, true, true] 38 _ (by decide +kernel) rfl (fun W hW => ?_) ?_
  rotate_left
  · obtain ⟨hcW, hfW⟩ := bCells (bTr HB hW)
    dsimp only [pickL]
    go_wp2
    exact Lend.ok
  refine region_calm_end (by kernel_rfl) (fun W hW => ?_)
  replace HB := bTr HB hW
  replace c0 := ((bCells HB).1 _ _ hb).trans c0
  replace c1 := ((bCells HB).1 _ _ hb).trans c1
  replace c2 := ((bCells HB).1 _ _ hb).trans c2
  replace HB := bTr hB1 HB
  clear hB1 hB hm
  go_wp2_with (go_at_call 30; refine (number_any _ _).mono ?_; rintro e w' ⟨rfl, rfl⟩)
  all_goals
    go_ret
    refine ⟨ret_bool ?_, HB⟩
    rw [Hr.out, Bool.eq_iff_iff]
    clear HB c0 c1 c2 hb hl hW Hr
    simp [numB] at *
    try omega
end Go.Proofs.Ytoehcmddfpompaa
