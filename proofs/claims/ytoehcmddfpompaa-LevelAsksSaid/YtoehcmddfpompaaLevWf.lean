/- The walks of level: what wakes. -/
import Derived.Test.YtoehcmddfpompaaLevWe
import Derived.Test.YtoehcmddfpompaaNumInts
import Derived.Deep.DeepCutAuto
namespace Go.Proofs.Ytoehcmddfpompaa
open Go Go.RowKit

theorem Box3.alloc {w : World} {b : Nat} {e : En} (h : Box3 w b e) (o : Obj) : Box3 (w.alloc o) b e := h.keep ((KeepB.refl (fun _ => True) w).alloc o) trivial
set_option maxRecDepth 100000 in
set_option maxHeartbeats 8000000 in
theorem wakes_any (w : World) : Calls Try.prog 7 #[] w fun e w' => e = .returned (.bool true) ∧ Below w.heap.size w w' := by
  go_enter Try.func7, Try.ntmps7
  go_wp2_with fail
  have hs := (Box5.new w ⟨3, 1, 0, 2, false⟩ 23).alloc (.cells #[.int .i64 3, .int .i64 1, .int .i64 0, .int .i64 2, .bool true] 23)
  have hf := Box5.new (w.alloc (.cells #[.int .i64 3, .int .i64 1, .int .i64 0, .int .i64 2, .bool false] 23)) ⟨3, 1, 0, 2, true⟩ 23
  have hB : Below w.heap.size w ((w.alloc (.cells #[.int .i64 3, .int .i64 1, .int .i64 0, .int .i64 2, .bool false] 23)).alloc (.cells #[.int .i64 3, .int .i64 1, .int .i64 0, .int .i64 2, .bool true] 23)) := ((Below.refl _ _).alloc (Nat.le_refl _) _).alloc (by simp) _
  rw [World.size_alloc] at hf
  dsimp only at hs hf
  generalize (w.alloc (.cells #[.int .i64 3, .int .i64 1, .int .i64 0, .int .i64 2, .bool false] 23)).alloc (.cells #[.int .i64 3, .int .i64 1, .int .i64 0, .int .i64 2, .bool true] 23) = W0 at *
  refine (entryL_any 1 5 2 W0).mono ?_
  rintro e w1 ⟨rfl, hB1⟩
  rw [show entryL 1 5 2 = (⟨2, 1, 5⟩, 0) by decide +kernel]
  dsimp only [En.v]
  go_wp2_with fail
  have he : Box3 (w1.alloc (.cells #[.int .i64 2, .int .i64 1, .int .i64 5] 30)) w1.heap.size ⟨2, 1, 5⟩ := ⟨by simp, by simp, by simp⟩
  replace hs := (hs.keep (keepT hB1) trivial).alloc (.cells #[.int .i64 2, .int .i64 1, .int .i64 5] 30)
  replace hf := (hf.keep (keepT hB1) trivial).alloc (.cells #[.int .i64 2, .int .i64 1, .int .i64 5] 30)
  replace hB := (bTr hB hB1).alloc (bTr hB hB1).size (.cells #[.int .i64 2, .int .i64 1, .int .i64 5] 30)
  clear hB1
  generalize w1.alloc (.cells #[.int .i64 2, .int .i64 1, .int .i64 5] 30) = W1 at *
  refine (entryL_any 9 0 1 W1).mono ?_
  rintro e w2 ⟨rfl, hB1⟩
  rw [show entryL 9 0 1 = (⟨0, 0, 0⟩, 2) by decide +kernel]
  dsimp only [En.v]
  go_upto_region 6 with fail
  replace he := (he.keep (keepT hB1) trivial).alloc (.cells #[.int .i64 0, .int .i64 0, .int .i64 0] 30)
  replace hs := (hs.keep (keepT hB1) trivial).alloc (.cells #[.int .i64 0, .int .i64 0, .int .i64 0] 30)
  replace hf := (hf.keep (keepT hB1) trivial).alloc (.cells #[.int .i64 0, .int .i64 0, .int .i64 0] 30)
  replace hB := (bTr hB hB1).alloc (bTr hB hB1).size (.cells #[.int .i64 0, .int .i64 0, .int .i64 0] 30)
  clear hB1
  generalize w2.alloc (.cells #[.int .i64 0, .int .i64 0, .int .i64 0] 30) = Wb at *
  have ls := hs.lt
  have lf := hf.lt
  have le := he.lt
  obtain ⟨⟨s0, s1, s2, s3, s4⟩, _⟩ := hs
  obtain ⟨⟨f0, f1, f2, f3, f4⟩, _⟩ := hf
  obtain ⟨e0, e1, e2⟩ := he
  dsimp only at s0 s1 s2 s3 s4 f0 f1 f2 f3 f4 e0 e1 e2
  generalize w1.heap.size = g1 at *
  have HB := Below.refl Wb.heap.size Wb
  go_wp2_with fail
  refine (check_any 4 ⟨0, 0, 0, 1, false⟩ none 0 0 [] rfl (by simp) _ (Rd.nil _ _)).mono ?_
  rintro e x1 ⟨rfl, hX⟩
  rw [show checkS 4 ⟨0, 0, 0, 1, false⟩ [] = 223 by decide +kernel]
  replace HB := bTr HB hX
  clear hX
  obtain ⟨hcW, hfW⟩ := bCells HB
  have hz := HB.size
  go_wp2_with fail
  have hl2 := Rd.new x1 (ivs [2, 1]) 3
  replace HB := HB.alloc HB.size (.cells (ivs [2, 1]).toArray 3)
  refine (check_any 2 ⟨3, 1, 0, 2, false⟩ _ 2 2 [2, 1] rfl (by simp) _ hl2).mono ?_
  rintro e x2 ⟨rfl, hX⟩
  rw [show checkS 2 ⟨3, 1, 0, 2, false⟩ [2, 1] = 221 by decide +kernel]
  replace HB := bTr HB hX
  clear hl2
  clear hcW hfW hz
  clear hX
  obtain ⟨hcW, hfW⟩ := bCells HB
  have hz := HB.size
  go_wp2_with fail
  refine (check_any 3 ⟨3, 1, 0, 2, true⟩ none 0 0 [] rfl (by simp) _ (Rd.nil _ _)).mono ?_
  rintro e x3 ⟨rfl, hX⟩
  rw [show checkS 3 ⟨3, 1, 0, 2, true⟩ [] = 222 by decide +kernel]
  replace HB := bTr HB hX
  clear hcW hfW hz
  clear hX
  obtain ⟨hcW, hfW⟩ := bCells HB
  have hz := HB.size
  go_wp2_with fail
  refine (check_any 0 ⟨3, 1, 0, 2, false⟩ none 0 0 [] rfl (by simp) _ (Rd.nil _ _)).mono ?_
  rintro e x4 ⟨rfl, hX⟩
  rw [show checkS 0 ⟨3, 1, 0, 2, false⟩ [] = 2 by decide +kernel]
  replace HB := bTr HB hX
  clear hcW hfW hz
  clear hX
  obtain ⟨hcW, hfW⟩ := bCells HB
  have hz := HB.size
  go_wp2_with fail
  have hl5 := Rd.new x4 (ivs [2, 2]) 3
  replace HB := HB.alloc HB.size (.cells (ivs [2, 2]).toArray 3)
  refine (check_any 2 ⟨3, 1, 0, 2, false⟩ _ 2 2 [2, 2] rfl (by simp) _ hl5).mono ?_
  rintro e x5 ⟨rfl, hX⟩
  rw [show checkS 2 ⟨3, 1, 0, 2, false⟩ [2, 2] = 0 by decide +kernel]
  replace HB := bTr HB hX
  clear hl5
  clear hcW hfW hz
  clear hX
  obtain ⟨hcW, hfW⟩ := bCells HB
  have hz := HB.size
  go_wp2_with fail
  refine (format_any ⟨3, 1, 0, 2, false⟩ 2 _).mono ?_
  rintro e x6 ⟨rfl, hX⟩
  rw [show formatS ⟨3, 1, 0, 2, false⟩ 2 = 2 by decide +kernel]
  replace HB := bTr HB hX
  clear hcW hfW hz
  clear hX
  obtain ⟨hcW, hfW⟩ := bCells HB
  have hz := HB.size
  go_wp2_with fail
  refine (format_any ⟨3, 1, 0, 2, false⟩ 1 _).mono ?_
  rintro e x7 ⟨rfl, hX⟩
  rw [show formatS ⟨3, 1, 0, 2, false⟩ 1 = 1 by decide +kernel]
  replace HB := bTr HB hX
  clear hcW hfW hz
  clear hX
  obtain ⟨hcW, hfW⟩ := bCells HB
  have hz := HB.size
  go_wp2_with fail
  refine (format_any ⟨0, 0, 0, 1, false⟩ 2 _).mono ?_
  rintro e x8 ⟨rfl, hX⟩
  rw [show formatS ⟨0, 0, 0, 1, false⟩ 2 = 1 by decide +kernel]
  replace HB := bTr HB hX
  clear hcW hfW hz
  clear hX
  obtain ⟨hcW, hfW⟩ := bCells HB
  have hz := HB.size
  go_wp2_with fail
  refine (stage_any ⟨3, 1, 0, 2, true⟩ _).mono ?_
  rintro e x9 ⟨rfl, hX⟩
  rw [show stageS ⟨3, 1, 0, 2, true⟩ = 2 by decide +kernel]
  replace HB := bTr HB hX
  clear hcW hfW hz
  clear hX
  obtain ⟨hcW, hfW⟩ := bCells HB
  have hz := HB.size
  go_wp2_with fail
  refine (known_any none 0 0 [] rfl (by simp) _ (Rd.nil _ _)).mono ?_
  rintro e x10 ⟨rfl, hX⟩
  rw [show knownB [] = false by decide +kernel]
  replace HB := bTr HB hX
  clear hcW hfW hz
  clear hX
  obtain ⟨hcW, hfW⟩ := bCells HB
  have hz := HB.size
  go_wp2_with fail
  have hle := Rd.new x10 (ens [⟨1, 3, 0⟩]) 30
  replace HB := HB.alloc HB.size (.cells (ens [⟨1, 3, 0⟩]).toArray 30)
  refine (stagesL_any ⟨3, 1, 0, 2, false⟩ _ 1 1 [⟨1, 3, 0⟩] rfl (by omega) (by omega) (by decide) _ hle).mono ?_
  rintro e y1 ⟨v1, rfl, ho, hX⟩
  rw [show stagesS ⟨3, 1, 0, 2, false⟩ [⟨1, 3, 0⟩] = [1, 0] by decide +kernel] at ho
  replace HB := bTr HB hX
  obtain ⟨A1, c1, rfl, _⟩ := own_slice ho
  have hr := Rd.of_own ho
  clear ho hX hcW hfW hz
  go_wp2_with fail
  have hl := Rd.new y1 (ivs [1, 0]) 3
  replace HB := HB.alloc HB.size (.cells (ivs [1, 0]).toArray 3)
  refine (ints_any A1 _ 2 2 c1 2 [1, 0] [1, 0] rfl rfl (by omega) _ (hr.below ((Below.refl _ _).alloc (Nat.le_refl _) _)) hl).mono ?_
  rintro e y2 ⟨rfl, hX⟩
  simp only [decide_true]
  replace HB := bTr HB hX
  go_wp2
  go_returns
  exact ⟨rfl, bTr hB HB⟩
end Go.Proofs.Ytoehcmddfpompaa
